/- Regions that draw their order: what the plan shows; new variables made late. -/
import Derived.Test.YtmchghdmejbblaaGreatDoorAh
set_option linter.unusedSimpArgs false
set_option linter.unusedVariables false
namespace Go.Ab

/-! ### New variables -/
theorem R.unborn {ok : Nat → Prop} {C : Cx} {σ σ' : St} {w : World} {id : Nat} {o : AObj} (h : R ok C σ w) (hn : σ.new o = some (id, σ')) (hro : ∀ cells, o ≠ .ro cells) :
    R ok C σ' w ∧ id = σ.next ∧ σ'.next = σ.next + 1 ∧ ∀ m, σ'.get m = if m = id then some o else σ.get m := by
  obtain ⟨objs, next⟩ := σ
  simp only [St.new] at hn
  · simp only [force_eq, Option.some.injEq, Prod.mk.injEq] at hn
    obtain ⟨rfl, rfl⟩ := hn
    have hc : C.cur next = none := h.cur_next
    have hget : ∀ m, (⟨objs.set (next + 1) next o, next + 1⟩ : St).get m = if m = next then some o else (⟨objs, next⟩ : St).get m := fun m => get_setS objs next m o
    refine ⟨⟨fun i x cv hi hci => ?_, fun i cv hci => ?_, h.inj, fun i x hi => ?_, h.bs, Nat.zero_le _, fun i cells hi => ?_⟩, rfl, rfl, hget⟩
    · have e : i ≠ next := by intro e; rw [e, hc] at hci; cases hci
      rw [hget, if_neg e] at hi
      exact h.obj i x cv hi hci
    · have e : i ≠ next := by intro e; rw [e, hc] at hci; cases hci
      rw [hget, if_neg e]
      exact h.dom i cv hci
    · rw [hget] at hi
      by_cases e : i = next
      · subst e; exact Nat.lt_succ_self _
      · rw [if_neg e] at hi
        exact Nat.lt_succ_of_lt (h.lt i x hi)
    · rw [hget] at hi
      by_cases e : i = next
      · rw [if_pos e] at hi
        exact absurd hi (fun hh => hro cells (Option.some.inj hh))
      · rw [if_neg e] at hi
        exact h.ro i cells hi

theorem R.born {ok : Nat → Prop} {C : Cx} {σ : St} {w : World} {id : Nat} {cells : List AV} {vs : Array Value} (e : TypeId) (h : R ok C σ w) (hg : σ.get id = some (.arr 0 cells)) (hc : C.cur id = none)
    (hok : ∀ b, w.heap.size ≤ b → ok b) (hv : ∀ C', VRs C' cells (vs.toList.take cells.length)) (h1 : cells.all AV.one = true) :
    R ok (C.upd id w.heap.size 0 vs.size) σ (w.alloc (.cells vs e)) := by
  have ex := Ext.upd_new (b := w.heap.size) (n := vs.size) hc
  have big : ∀ k ck, C.cur k = some ck → C.μ k < w.heap.size := fun k ck hk => by
    obtain ⟨x, hx⟩ := h.dom k ck hk
    exact (h.obj k x ck hx hk).2.1.lt
  refine ⟨fun i x cv hi hci => ?_, fun i cv hci => ?_, fun i j ci cj hi hj hij => ?_, h.lt, fun b => ?_, h.le, fun i cells' hi => ?_⟩
  · by_cases ei : i = id
    · subst ei
      rw [hg] at hi
      cases hi
      simp only [Cx.upd, if_true, Option.some.injEq] at hci
      subst hci
      refine ⟨rfl, ?_, ?_⟩
      · simp only [Cx.upd, if_true]
        exact ⟨vs, e, heap_push_new w _, hv _, h1⟩
      · simp only [Cx.upd, if_true]; exact hok _ (Nat.le_refl _)
    · simp only [Cx.upd, ei, if_false] at hci
      obtain ⟨q1, q2, q3⟩ := h.obj i x cv hi hci
      refine ⟨q1, ?_, ?_⟩
      · simp only [Cx.upd, ei, if_false]
        exact q2.ext ex (heap_push_lt w _ _ q2.lt)
      · simp only [Cx.upd, ei, if_false]; exact q3
  · by_cases ei : i = id
    · exact ⟨_, by rw [ei]; exact hg⟩
    · simp only [Cx.upd, ei, if_false] at hci
      exact h.dom i cv hci
  · simp only [Cx.upd] at hi hj hij
    by_cases ei : i = id <;> by_cases ej : j = id
    · rw [ei, ej]
    · simp only [ei, ej, if_true, if_false] at hi hj hij
      have := big j cj hj
      omega
    · simp only [ei, ej, if_true, if_false] at hi hj hij
      have := big i ci hi
      omega
    · simp only [ei, ej, if_false] at hi hj hij
      exact h.inj i j ci cj hi hj hij
  · have h1 := h.bs b
    have h2 := bsize_push w (.cells vs e) b
    simp only [Cx.upd]
    split
    · rename_i eb
      subst eb
      have h0 : bsize w w.heap.size = 0 := by unfold bsize; rw [Array.getElem?_eq_none (Nat.le_refl _)]
      have h3 : bsize (w.alloc (.cells vs e)) w.heap.size = vs.size := by unfold bsize; rw [heap_push_new]
      omega
    · omega
  · obtain ⟨h1, a, h2, h3⟩ := h.ro i cells' hi
    have ei : i ≠ id := by intro e; subst e; rw [hg] at hi; cases hi
    refine ⟨by simp [Cx.upd, ei, h1], a, h2, h3.keep ex fun k hk => ?_⟩
    by_cases hk' : k < w.heap.size
    · exact heap_push_lt w _ k hk'
    · exact absurd (hok k (by omega)) hk

/-! ### The plan's items -/
structure It where
  i : Nat
  o : Oper
  v : AV
  lo : Nat
  hi : Nat
def It.io (m : It) : Nat × Oper := (m.i, m.o)

def lookAt (items : List It) (S : Nat → Bool) (d : Tmp) (dflt : AV) : AV :=
  match items.find? fun m => S m.i && m.o.dst == some d with
  | some m => m.v
  | none => dflt

/-- The frame after those of S. -/
structure Agree (items : List It) (S : Nat → Bool) (fr0 fr : Fr) : Prop where
  at_ : ∀ d, getT fr.tmps d = lookAt items S d (getT fr0.tmps d)
  n : fr.n = fr0.n
  dfs : fr.dfs = fr0.dfs
  ro : fr.ro = fr0.ro

theorem put_at {fr fr' : Fr} {dst : Option Tmp} {v : AV} (h : fr.put dst v = some fr') : (∀ d, getT fr'.tmps d = if dst = some d then v else getT fr.tmps d) ∧ fr'.n = fr.n ∧ fr'.dfs = fr.dfs ∧ fr'.ro = fr.ro := by
  unfold Fr.put at h
  split at h
  · cases h; exact ⟨fun d => by simp, rfl, rfl, rfl⟩
  · rename_i d0
    obtain ⟨t, ds, m, ro⟩ := fr
    simp only at h
    split at h
    · rename_i h1 h2
      cases h
      have h2 : d0 < lim := by simpa using h2
      refine ⟨fun d => ?_, rfl, rfl, rfl⟩
      rw [getT_set _ _ _ _ h2]
      by_cases e : d = d0
      · subst e; simp
      · rw [if_neg e, if_neg (fun h => e (by cases h; rfl))]
    · simp [bad] at h
theorem put_some {fr fr' : Fr} {dst : Option Tmp} {v : AV} (h : fr.put dst v = some fr') (fr2 : Fr) (hn : fr2.n = fr.n) : ∃ fr3, fr2.put dst v = some fr3 := by
  unfold Fr.put at h ⊢
  cases dst with
  | none => exact ⟨_, rfl⟩
  | some d =>
    obtain ⟨t, ds, m, ro⟩ := fr
    obtain ⟨t2, ds2, m2, ro2⟩ := fr2
    simp only at hn h ⊢
    subst hn
    split at h
    · exact ⟨_, rfl⟩
    · simp [bad] at h

/-- The indices differ, and so do the temporaries written. -/
def Apart (items : List It) : Prop := ∀ a ∈ items, ∀ b ∈ items, (a.i = b.i → a = b) ∧ (∀ d, a.o.dst = some d → b.o.dst = some d → a = b)

theorem lookAt_some {items : List It} (ha : Apart items) {S : Nat → Bool} {m : It} (hm : m ∈ items) {d : Tmp} (hd : m.o.dst = some d) (hS : S m.i = true) (x : AV) : lookAt items S d x = m.v := by
  unfold lookAt
  cases hf : items.find? fun m => S m.i && m.o.dst == some d with
  | none =>
    rw [List.find?_eq_none] at hf
    exact absurd (by simp [hS, hd]) (hf m hm)
  | some b =>
    have hb := List.find?_some hf
    have hbm := List.mem_of_find?_eq_some hf
    simp only [Bool.and_eq_true, beq_iff_eq] at hb
    rw [(ha m hm b hbm).2 d hd hb.2]
theorem lookAt_none {items : List It} {S : Nat → Bool} {d : Tmp} (h : ∀ m ∈ items, S m.i = true → m.o.dst ≠ some d) (x : AV) : lookAt items S d x = x := by
  unfold lookAt
  cases hf : items.find? fun m => S m.i && m.o.dst == some d with
  | none => rfl
  | some b =>
    have hb := List.find?_some hf
    have hbm := List.mem_of_find?_eq_some hf
    simp only [Bool.and_eq_true, beq_iff_eq] at hb
    exact absurd hb.2 (h b hbm hb.1)
theorem find_congr {α : Type} {p q : α → Bool} : ∀ {l : List α}, (∀ x ∈ l, p x = q x) → l.find? p = l.find? q
  | [], _ => rfl
  | a :: l, h => by rw [List.find?_cons, List.find?_cons, h a (by simp), find_congr (fun x hx => h x (by simp [hx]))]
theorem lookAt_congr {items : List It} {S S' : Nat → Bool} {d : Tmp} (h : ∀ m ∈ items, m.o.dst = some d → S m.i = S' m.i) (x : AV) : lookAt items S d x = lookAt items S' d x := by
  unfold lookAt
  have e : items.find? (fun m => S m.i && m.o.dst == some d) = items.find? (fun m => S' m.i && m.o.dst == some d) := find_congr fun m hm => by
    by_cases hd : m.o.dst = some d
    · rw [h m hm hd]
    · have : (m.o.dst == some d) = false := by simpa using hd
      rw [this, Bool.and_false, Bool.and_false]
  rw [e]

theorem Agree.add {items : List It} (ha : Apart items) {S S' : Nat → Bool} {fr0 fr fr' : Fr} (h : Agree items S fr0 fr) {m : It} (hm : m ∈ items) (hS : ∀ j, S' j = (S j || j == m.i)) (hp : fr.put m.o.dst m.v = some fr') : Agree items S' fr0 fr' := by
  obtain ⟨h1, h2, h3, h4⟩ := put_at hp
  refine ⟨fun d => ?_, by rw [h2, h.n], by rw [h3, h.dfs], by rw [h4, h.ro]⟩
  rw [h1]
  by_cases hd : m.o.dst = some d
  · rw [if_pos hd, lookAt_some ha hm hd (by rw [hS]; simp)]
  · rw [if_neg hd, h.at_]
    refine lookAt_congr (fun b hb hbd => ?_) _
    rw [hS]
    have : b.i ≠ m.i := fun e => hd (by rw [← (ha b hb m hm).1 e]; exact hbd)
    simp [this]
theorem Agree.none (items : List It) (fr0 : Fr) : Agree items (fun _ => false) fr0 fr0 := ⟨fun d => (lookAt_none (fun _ _ h => by cases h) _).symm, rfl, rfl, rfl⟩
theorem Agree.congr {items : List It} {S S' : Nat → Bool} {fr0 fr : Fr} (h : Agree items S fr0 fr) (hS : ∀ m ∈ items, S m.i = S' m.i) : Agree items S' fr0 fr :=
  ⟨fun d => by rw [h.at_]; exact lookAt_congr (fun m hm _ => hS m hm) _, h.n, h.dfs, h.ro⟩

/-! ### New variables, made first -/
structure NewAt (T : Tb) (σ : St) (m : It) : Prop where
  v : m.v = .ptr m.lo 0 0
  guard : m.o.guard = none
  op : ∃ elem z, m.o.op = .alloc elem ∧ zeroA T elem = some z ∧ σ.get m.lo = some (.arr 0 z.cells) ∧ z.cells.all AV.one = true

theorem kind1 {o : Oper} (h : kindOf o = 1) : ∃ elem, o.op = .alloc elem := by
  unfold kindOf at h
  cases hop : o.op <;> rw [hop] at h <;> simp only at h <;> try (exact absurd h (by decide))
  case alloc e => exact ⟨e, rfl⟩
  case call c =>
    cases hc : c.callee with
    | value f => rw [hc] at h; simp at h
    | invoke _ _ => rw [hc] at h; simp at h
    | builtin b => rw [hc] at h; cases b <;> simp at h

/-- Frames, one by one. -/
def Puts : List It → Fr → Fr → Prop
  | [], fr, fr' => fr' = fr
  | m :: l, fr, fr' => ∃ fr1, fr.put m.o.dst m.v = some fr1 ∧ Puts l fr1 fr'

theorem evAllocs_ok {T : Tb} {e : Ev} {ops : Array Oper} {ok : Nat → Prop} {C : Cx} {w : World} : ∀ {al : List (Nat × Oper)} {fr fr' : Fr} {σ σ' : St}, evAllocs T e ops al fr σ = some (fr', σ') →
    (∀ p ∈ al, kindOf p.2 = 1 ∧ p.2.guard = none) → R ok C σ w →
    ∃ items : List It, items.map It.io = al ∧ R ok C σ' w ∧ σ.next ≤ σ'.next ∧ (∀ id, id < σ.next → σ'.get id = σ.get id) ∧ Puts items fr fr' ∧
      (∀ m ∈ items, NewAt T σ' m ∧ σ.next ≤ m.lo ∧ C.cur m.lo = none) ∧ (∀ a ∈ items, ∀ b ∈ items, a.lo = b.lo → a.i = b.i)
  | [], fr, fr', σ, σ', h, _, hR => by
    simp only [evAllocs, Option.some.injEq, Prod.mk.injEq] at h
    obtain ⟨rfl, rfl⟩ := h
    exact ⟨[], rfl, hR, Nat.le_refl _, fun _ _ => rfl, rfl, (fun m hm => by cases hm), (fun a ha => by cases ha)⟩
  | p :: al, fr, fr', σ, σ', h, hk, hR => by
    simp only [evAllocs] at h
    split at h
    · rename_i v σ1 h1
      split at h
      · rename_i fr1 hp
        obtain ⟨hk1, hg⟩ := hk p (by simp)
        obtain ⟨elem, hop⟩ := kind1 hk1
        have h2 : ∃ z id, zeroA T elem = some z ∧ z.cells.all AV.one = true ∧ σ.new (.arr 0 z.cells) = some (id, σ1) ∧ v = .ptr id 0 0 := by
          unfold exec1 at h1
          simp only [Region.wanted, hg] at h1
          have ha : aop T fr p.2 σ = opAlloc T elem σ := by unfold aop; rw [hop]; rfl
          rw [ha] at h1
          unfold opAlloc at h1
          split at h1
          · rename_i z hz
            unfold opNew newArr at h1
            split at h1
            · rename_i id σ2 hn
              split at hn
              · rename_i h1c
                simp only [follow, Option.some.injEq, Prod.mk.injEq] at h1
                obtain ⟨rfl, rfl⟩ := h1
                exact ⟨z, id, hz, h1c, hn, rfl⟩
              · simp [bad] at hn
            · simp [follow] at h1
          · simp [bad, follow] at h1
        obtain ⟨z, id, hz, hz1, hn, rfl⟩ := h2
        obtain ⟨hR1, hid, hnx, hget⟩ := hR.unborn hn (fun _ h => by cases h)
        obtain ⟨items, q1, q2, q3, q4, q5, q6, q7⟩ := evAllocs_ok h (fun p hp => hk p (by simp [hp])) hR1
        refine ⟨⟨p.1, p.2, .ptr id 0 0, id, 0⟩ :: items, by simp [It.io, q1], q2, by omega, fun k hkk => ?_, ⟨fr1, hp, q5⟩, fun m hm => ?_, fun a ha b hb hab => ?_⟩
        · rw [q4 k (by omega), hget, if_neg (by omega)]
        · rcases List.mem_cons.1 hm with rfl | hm
          · refine ⟨⟨rfl, hg, elem, z, hop, hz, ?_, hz1⟩, by simp only; omega, by simp only; rw [hid]; exact hR.cur_next⟩
            simp only
            rw [q4 id (by omega), hget, if_pos rfl]
          · obtain ⟨r1, r2, r3⟩ := q6 m hm
            exact ⟨r1, by omega, r3⟩
        · rcases List.mem_cons.1 ha with rfl | ha <;> rcases List.mem_cons.1 hb with rfl | hb
          · rfl
          · have := (q6 b hb).2.1
            simp only at hab
            omega
          · have := (q6 a ha).2.1
            simp only at hab
            omega
          · exact q7 a ha b hb hab
      · cases h
    · cases h

/-! ### The rest of the plan -/
section
variable (T : Tb) (e : Ev) (ops : Array Oper) (σs : Nat → St)
def PlanRun : List It → Nat → Fr → Nat → Fr → Prop
  | [], K, fr, K', fr' => K' = K ∧ fr' = fr
  | m :: l, K, fr, K', fr' => m.hi = K ∧ ∃ fr1, fr.put m.o.dst m.v = some fr1 ∧
      ((loud m.o = true ∧ exec1 T e ops m.o fr (σs K) = some (m.v, σs (K + 1)) ∧ PlanRun l (K + 1) fr1 K' fr') ∨
       (kindOf m.o = 0 ∧ (∀ k, m.lo ≤ k → k ≤ K → exec1 T e ops m.o fr (σs k) = some (m.v, σs k)) ∧ PlanRun l K fr1 K' fr'))
end
variable {T : Tb} {e : Ev} {ops : Array Oper} {σs : Nat → St}

theorem PlanRun.puts : ∀ {l : List It} {K K' : Nat} {fr fr' : Fr}, PlanRun T e ops σs l K fr K' fr' → Puts l fr fr'
  | [], _, _, _, _, h => h.2
  | m :: l, _, _, _, _, h => by
    obtain ⟨_, fr1, hp, ⟨_, _, h⟩ | ⟨_, _, h⟩⟩ := h
    · exact ⟨fr1, hp, PlanRun.puts h⟩
    · exact ⟨fr1, hp, PlanRun.puts h⟩
theorem PlanRun.split : ∀ {pre : List It} {l : List It} {K K' : Nat} {fr fr' : Fr}, PlanRun T e ops σs (pre ++ l) K fr K' fr' → ∃ K1 fr1, PlanRun T e ops σs pre K fr K1 fr1 ∧ PlanRun T e ops σs l K1 fr1 K' fr'
  | [], l, K, K', fr, fr', h => ⟨K, fr, ⟨rfl, rfl⟩, h⟩
  | m :: pre, l, K, K', fr, fr', h => by
    obtain ⟨hh, fr1, hp, ⟨h1, h2, h⟩ | ⟨h1, h2, h⟩⟩ := h
    · obtain ⟨K2, fr2, q1, q2⟩ := PlanRun.split h
      exact ⟨K2, fr2, ⟨hh, fr1, hp, .inl ⟨h1, h2, q1⟩⟩, q2⟩
    · obtain ⟨K2, fr2, q1, q2⟩ := PlanRun.split h
      exact ⟨K2, fr2, ⟨hh, fr1, hp, .inr ⟨h1, h2, q1⟩⟩, q2⟩
theorem loud_kind {o : Oper} (h : loud o = true) : kindOf o = 2 := Nat.eq_of_beq_eq_true h
theorem PlanRun.bounds : ∀ {l : List It} {K K' : Nat} {fr fr' : Fr}, PlanRun T e ops σs l K fr K' fr' → K ≤ K' ∧ ∀ m ∈ l, K ≤ m.hi ∧ m.hi ≤ K' ∧ (loud m.o = true → m.hi < K')
  | [], _, _, _, _, h => ⟨Nat.le_of_eq h.1.symm, (fun m hm => by cases hm)⟩
  | m :: l, K, K', _, _, h => by
    obtain ⟨hh, fr1, hp, ⟨h1, h2, h⟩ | ⟨h1, h2, h⟩⟩ := h
    · obtain ⟨q1, q2⟩ := PlanRun.bounds h
      refine ⟨by omega, fun b hb => ?_⟩
      rcases List.mem_cons.1 hb with rfl | hb
      · exact ⟨by omega, by omega, fun _ => by omega⟩
      · obtain ⟨r1, r2, r3⟩ := q2 b hb
        exact ⟨by omega, r2, r3⟩
    · obtain ⟨q1, q2⟩ := PlanRun.bounds h
      refine ⟨q1, fun b hb => ?_⟩
      rcases List.mem_cons.1 hb with rfl | hb
      · exact ⟨by omega, by omega, fun hl => by rw [loud_kind hl] at h1; cases h1⟩
      · exact q2 b hb
theorem PlanRun.onto : ∀ {l : List It} {K K' : Nat} {fr fr' : Fr}, PlanRun T e ops σs l K fr K' fr' → ∀ j, K ≤ j → j < K' → ∃ m ∈ l, loud m.o = true ∧ m.hi = j
  | [], K, K', _, _, h, j, h1, h2 => by have := h.1; omega
  | m :: l, K, K', _, _, h, j, hj1, hj2 => by
    obtain ⟨hh, fr1, hp, ⟨h1, h2, h⟩ | ⟨h1, h2, h⟩⟩ := h
    · by_cases e : j = K
      · exact ⟨m, by simp, h1, by omega⟩
      · obtain ⟨b, hb, q⟩ := PlanRun.onto h j (by omega) hj2
        exact ⟨b, by simp [hb], q⟩
    · obtain ⟨b, hb, q⟩ := PlanRun.onto h j hj1 hj2
      exact ⟨b, by simp [hb], q⟩

theorem Puts.agree {items : List It} (ha : Apart items) {fr0 : Fr} : ∀ {l : List It} {S : Nat → Bool} {fr fr' : Fr}, Puts l fr fr' → (∀ m ∈ l, m ∈ items) → Agree items S fr0 fr → Agree items (fun j => S j || l.any fun m => j == m.i) fr0 fr'
  | [], S, fr, fr', h, _, hA => by
    cases h
    exact hA.congr fun m _ => by simp
  | m :: l, S, fr, fr', h, hm, hA => by
    obtain ⟨fr1, hp, h⟩ := h
    have := Puts.agree ha h (fun b hb => hm b (by simp [hb])) (hA.add ha (hm m (by simp)) (S' := fun j => S j || j == m.i) (fun _ => rfl) hp)
    exact this.congr fun b _ => by simp [Bool.or_assoc]
theorem Puts.append : ∀ {l l' : List It} {fr fr1 fr2 : Fr}, Puts l fr fr1 → Puts l' fr1 fr2 → Puts (l ++ l') fr fr2
  | [], _, _, _, _, h, h' => by cases h; exact h'
  | _ :: _, _, _, _, _, ⟨fr1, hp, h⟩, h' => ⟨fr1, hp, Puts.append h h'⟩
end Go.Ab
