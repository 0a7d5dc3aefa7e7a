/- A store of the evaluator stands for memory: the relation, and the three ways in which it goes on: an object is written, an object is new, an array is grown. -/
import Derived.Test.YtmchghdmejbblaaGreatDoorA2
import Derived.RangeFuncRecord
set_option linter.unusedSimpArgs false
set_option linter.unusedVariables false
namespace Go.Ab

/-! ### Lists of values -/
theorem VRs.length {C : Cx} : ∀ {l : List AV} {vs : List Value}, VRs C l vs → vs.length = l.length
  | [], _, h => by cases h; rfl
  | _ :: as, _, h => by
    obtain ⟨v, vs, rfl, _, h2⟩ := h
    simp [VRs.length h2]
theorem VRs.get {C : Cx} : ∀ {l : List AV} {vs : List Value} {i : Nat} {a : AV}, VRs C l vs → l[i]? = some a → ∃ v, vs[i]? = some v ∧ VR C a v
  | [], _, _, _, _, h => by simp at h
  | _ :: as, _, i, a, h, hi => by
    obtain ⟨v, vs, rfl, h1, h2⟩ := h
    cases i with
    | zero => simp at hi; subst hi; exact ⟨v, rfl, h1⟩
    | succ i => simp at hi; simpa using VRs.get h2 hi
theorem VRs.append {C : Cx} : ∀ {l l' : List AV} {vs vs' : List Value}, VRs C l vs → VRs C l' vs' → VRs C (l ++ l') (vs ++ vs')
  | [], _, _, _, h, h' => by cases h; exact h'
  | _ :: as, _, _, _, h, h' => by
    obtain ⟨v, vs, rfl, h1, h2⟩ := h
    exact ⟨v, vs ++ _, rfl, h1, VRs.append h2 h'⟩
theorem VRs.take {C : Cx} : ∀ (n : Nat) {l : List AV} {vs : List Value}, VRs C l vs → VRs C (l.take n) (vs.take n)
  | 0, _, _, _ => by simp [VRs]
  | _ + 1, [], _, h => by cases h; simp [VRs]
  | n + 1, _ :: as, _, h => by
    obtain ⟨v, vs, rfl, h1, h2⟩ := h
    exact ⟨v, vs.take n, rfl, h1, VRs.take n h2⟩
theorem VRs.drop {C : Cx} : ∀ (n : Nat) {l : List AV} {vs : List Value}, VRs C l vs → VRs C (l.drop n) (vs.drop n)
  | 0, _, _, h => h
  | _ + 1, [], _, h => by cases h; simp [VRs]
  | n + 1, _ :: as, _, h => by
    obtain ⟨v, vs, rfl, _, h2⟩ := h
    exact VRs.drop n h2
theorem VRs.cons {C : Cx} {a : AV} {v : Value} {l : List AV} {vs : List Value} (h : VR C a v) (h' : VRs C l vs) : VRs C (a :: l) (v :: vs) := ⟨v, vs, rfl, h, h'⟩
theorem VRs.one {C : Cx} {a : AV} {v : Value} (h : VR C a v) : VRs C [a] [v] := ⟨v, [], rfl, h, rfl⟩

theorem VR.one {C : Cx} {a : AV} {v : Value} (h : VR C a v) (h1 : a.one = true) : v.oneCell' = true := by
  cases a <;> simp only [AV.one] at h1 <;> simp only [VR] at h
  case bool => subst h; rfl
  case int => subst h; rfl
  case str => subst h; rfl
  case nilp => subst h; rfl
  case ptr => obtain ⟨a, rfl, _⟩ := h; rfl
  case nils => subst h; rfl
  case sl => obtain ⟨a, c, rfl, _⟩ := h; rfl
  case nilm => subst h; rfl
  case mp => obtain ⟨b, rfl, _⟩ := h; rfl
  case nilf => subst h; rfl
  case fn => obtain ⟨x, y, rfl, _⟩ := h; rfl
  case yld => obtain ⟨b, rfl, _⟩ := h; rfl
  case rsl => obtain ⟨a, c, rfl, _⟩ := h; rfl
  case rptr => obtain ⟨a, rfl, _⟩ := h; rfl
  case esl => obtain ⟨a, rfl⟩ := h; rfl
  all_goals cases h1
theorem VRs.ones {C : Cx} : ∀ {l : List AV} {vs : List Value}, VRs C l vs → l.all AV.one = true → ∀ v ∈ vs, v.oneCell' = true
  | [], _, h, _ => by cases h; intro v hv; cases hv
  | a :: as, _, h, h1 => by
    obtain ⟨v, vs, rfl, ha, h2⟩ := h
    simp only [List.all_cons, Bool.and_eq_true] at h1
    intro x hx
    rcases List.mem_cons.1 hx with rfl | hx
    · exact ha.one h1.1
    · exact VRs.ones h2 h1.2 x hx
/-- A value's cells. -/
theorem VR.cells {C : Cx} {a : AV} {v : Value} (h : VR C a v) : VRs C a.cells v.cells.toList := by
  cases a <;> simp only [AV.cells] <;> simp only [VR] at h
  case agg => obtain ⟨x, rfl, h⟩ := h; exact h
  case tup => obtain ⟨x, rfl, h⟩ := h; exact VRs.one ⟨x, rfl, h⟩
  case bool => subst h; exact VRs.one rfl
  case int => subst h; exact VRs.one rfl
  case str => subst h; exact VRs.one rfl
  case nilp => subst h; exact VRs.one rfl
  case ptr => obtain ⟨a, rfl, h⟩ := h; exact VRs.one ⟨a, rfl, h⟩
  case nils => subst h; exact VRs.one rfl
  case sl => obtain ⟨a, c, rfl, h⟩ := h; exact VRs.one ⟨a, c, rfl, h⟩
  case nilm => subst h; exact VRs.one rfl
  case mp => obtain ⟨b, rfl, h⟩ := h; exact VRs.one ⟨b, rfl, h⟩
  case nilf => subst h; exact VRs.one rfl
  case fn => obtain ⟨x, y, rfl, h⟩ := h; exact VRs.one ⟨x, y, rfl, h⟩
  case yld => obtain ⟨b, rfl, h⟩ := h; exact VRs.one ⟨b, rfl, h⟩
  case rsl => obtain ⟨a, c, rfl, h⟩ := h; exact VRs.one ⟨a, c, rfl, h⟩
  case rptr => obtain ⟨a, rfl, h⟩ := h; exact VRs.one ⟨a, rfl, h⟩
  case esl => obtain ⟨a, rfl⟩ := h; exact VRs.one ⟨a, rfl⟩

/-! ### Objects -/
def curOf : AObj → Nat
  | .arr ver _ => ver
  | _ => 0
def bsize (w : World) (b : Nat) : Nat := match w.heap[b]? with
  | some (.cells c _ _) => c.size
  | _ => 0

/-- The temporaries of a frame. -/
def TR (C : Cx) (t : Tr AV) (tmps : Array Value) : Prop := ∀ d, VR C (getT t d) (tmps.getD d undef)
theorem TR.ext {C C' : Cx} {t : Tr AV} {tmps : Array Value} (h : TR C t tmps) (e : Ext C C') : TR C' t tmps := fun d => VR.ext e _ _ (h d)

def keyPlain : AV → Bool
  | .int _ _ | .str _ | .bool _ => true
  | _ => false

/-- An object lies in a block. -/
def ORel (C : Cx) (w : World) : AObj → Nat → Prop
  | .arr _ cells, b => ∃ (c : Array Value) (e : TypeId), w.heap[b]? = some (.cells c e (0, 0)) ∧ VRs C cells (c.toList.take cells.length) ∧ cells.all AV.one = true
  | .mp es, b => ∃ ces : Array MapEntry, w.heap[b]? = some (.map ces es.length) ∧ ces.size = es.length ∧
      ∀ i k v, es[i]? = some (k, v) → ∃ e : MapEntry, ces[i]? = some e ∧ VR C k e.key ∧ VR C v e.val ∧ e.born = i ∧ keyPlain k = true
  | .loop st pend n t ps asg body, b => ∃ r : Loop, w.heap[b]? = some (.loop r) ∧ r.state = st ∧ r.pending = pend ∧ r.tmps.size = n ∧ TR C t r.tmps ∧ r.params = ps ∧ r.assign = asg ∧ r.body = body ∧ pend ≠ some .skip
  | .defs, b => w.heap[b]? = some (.deferred (some []))
  | .defd, b => w.heap[b]? = some (.deferred none)
  | .iter s p, b => w.heap[b]? = some (.stringIter s p)
  | .ro _, _ => False

theorem ORel.ext {C C' : Cx} {w w' : World} {o : AObj} {b : Nat} (h : ORel C w o b) (e : Ext C C') (hb : w'.heap[b]? = w.heap[b]?) : ORel C' w' o b := by
  cases o with
  | arr ver cells =>
    obtain ⟨c, t, h1, h2, h3⟩ := h
    exact ⟨c, t, hb.trans h1, VRs.ext e _ _ h2, h3⟩
  | mp es =>
    obtain ⟨ces, h1, h2, h3⟩ := h
    exact ⟨ces, hb.trans h1, h2, fun i k v hi => by
      obtain ⟨x, hx, hk, hv, r⟩ := h3 i k v hi
      exact ⟨x, hx, VR.ext e _ _ hk, VR.ext e _ _ hv, r⟩⟩
  | loop st pend n t ps asg body =>
    obtain ⟨r, h1, h2, h3, h4, h5, h6⟩ := h
    exact ⟨r, hb.trans h1, h2, h3, h4, h5.ext e, h6⟩
  | defs => exact hb.trans h
  | defd => exact hb.trans h
  | iter s p => exact hb.trans h
  | ro cells => exact h.elim

theorem ORel.lt {C : Cx} {w : World} {o : AObj} {b : Nat} (h : ORel C w o b) : b < w.heap.size := by
  have : ∃ x, w.heap[b]? = some x := by
    cases o with
    | arr ver cells => obtain ⟨c, t, h1, _⟩ := h; exact ⟨_, h1⟩
    | mp es => obtain ⟨ces, h1, _⟩ := h; exact ⟨_, h1⟩
    | loop => obtain ⟨r, h1, _⟩ := h; exact ⟨_, h1⟩
    | defs => exact ⟨_, h⟩
    | defd => exact ⟨_, h⟩
    | iter => exact ⟨_, h⟩
    | ro cells => exact h.elim
  obtain ⟨x, hx⟩ := this
  exact (Array.getElem?_eq_some_iff.1 hx).1

/-- A row that is read only: it lies at an address, not among the blocks that may be written. -/
def RoRel (ok : Nat → Prop) (C : Cx) (w : World) (cells : List AV) (a : Addr) : Prop :=
  ¬ ok a.block ∧ ∀ i x, cells[i]? = some x → ∃ v, w.cell? (a.add i) = some v ∧ VR C x v
theorem cell_same {w w' : World} {a : Addr} (h : w'.heap[a.block]? = w.heap[a.block]?) : w'.cell? a = w.cell? a := by
  unfold World.cell?
  rw [h]
theorem add_block (a : Addr) (i : Nat) : (a.add i).block = a.block := by unfold Addr.add; split <;> rfl
theorem RoRel.keep {ok : Nat → Prop} {C C' : Cx} {w w' : World} {cells : List AV} {a : Addr} (h : RoRel ok C w cells a) (e : Ext C C') (hb : ∀ k, ¬ ok k → w'.heap[k]? = w.heap[k]?) : RoRel ok C' w' cells a := by
  refine ⟨h.1, fun i x hi => ?_⟩
  obtain ⟨v, h1, h2⟩ := h.2 i x hi
  refine ⟨v, ?_, VR.ext e _ _ h2⟩
  exact (cell_same (by rw [add_block]; exact hb _ h.1)).trans h1

/-- The store stands for memory. -/
structure R (ok : Nat → Prop) (C : Cx) (σ : St) (w : World) : Prop where
  obj : ∀ id o cv, σ.get id = some o → C.cur id = some cv → cv = curOf o ∧ ORel C w o (C.μ id) ∧ ok (C.μ id)
  dom : ∀ id cv, C.cur id = some cv → ∃ o, σ.get id = some o
  inj : ∀ id id' cv cv', C.cur id = some cv → C.cur id' = some cv' → C.μ id = C.μ id' → id = id'
  lt : ∀ id o, σ.get id = some o → id < σ.next
  bs : ∀ b, C.bs b ≤ bsize w b
  le : 0 ≤ σ.next
  ro : ∀ id cells, σ.get id = some (.ro cells) → C.cur id = none ∧ ∃ a, C.ra id = some a ∧ RoRel ok C w cells a

/-- What is not among the blocks that may be written is as it was. -/
structure Same (ok : Nat → Prop) (w w' : World) : Prop where
  os : w'.os = w.os
  tape : w'.tape = w.tape
  output : w'.output = w.output
  size : w.heap.size ≤ w'.heap.size
  block : ∀ k, ¬ ok k → w'.heap[k]? = w.heap[k]?
theorem Same.refl (ok : Nat → Prop) (w : World) : Same ok w w := ⟨rfl, rfl, rfl, Nat.le_refl _, fun _ _ => rfl⟩
theorem Same.trans {ok : Nat → Prop} {a b c : World} (h : Same ok a b) (k : Same ok b c) : Same ok a c :=
  ⟨k.os.trans h.os, k.tape.trans h.tape, k.output.trans h.output, Nat.le_trans h.size k.size, fun i hi => (k.block i hi).trans (h.block i hi)⟩

/-- One state goes on to another. -/
structure Nx (ok : Nat → Prop) (C : Cx) (σ : St) (w : World) (C' : Cx) (σ' : St) (w' : World) : Prop where
  rel : R ok C' σ' w'
  ext : Ext C C'
  same : Same ok w w'
  un : ∀ id, id < σ.next → C.cur id = none → σ'.get id = σ.get id ∧ C'.cur id = none
  mono : σ.next ≤ σ'.next

theorem Nx.refl {ok : Nat → Prop} {C : Cx} {σ : St} {w : World} (h : R ok C σ w) : Nx ok C σ w C σ w :=
  ⟨h, Ext.refl C, Same.refl ok w, fun _ _ hc => ⟨rfl, hc⟩, Nat.le_refl _⟩
theorem Nx.trans {ok : Nat → Prop} {A B D : Cx} {a b d : St} {u v x : World} (h : Nx ok A a u B b v) (k : Nx ok B b v D d x) : Nx ok A a u D d x :=
  ⟨k.rel, h.ext.trans k.ext, h.same.trans k.same, fun id hi hc => by
    obtain ⟨h1, h2⟩ := h.un id hi hc
    obtain ⟨k1, k2⟩ := k.un id (Nat.lt_of_lt_of_le hi h.mono) h2
    exact ⟨k1.trans h1, k2⟩, Nat.le_trans h.mono k.mono⟩

/-- A draw turns nothing. -/
theorem R.drew {ok : Nat → Prop} {C : Cx} {σ : St} {w w' : World} (h : R ok C σ w) (hh : w'.heap = w.heap) : R ok C σ w' :=
  ⟨fun id o cv hg hc => by
    obtain ⟨h1, h2, h3⟩ := h.obj id o cv hg hc
    exact ⟨h1, h2.ext (Ext.refl C) (by rw [hh]), h3⟩, h.dom, h.inj, h.lt, fun b => by have := h.bs b; unfold bsize at *; rw [hh]; exact this, h.le, fun id cells hg => by
    obtain ⟨h1, a, h2, h3⟩ := h.ro id cells hg
    exact ⟨h1, a, h2, h3.keep (Ext.refl C) (fun k _ => by rw [hh])⟩⟩
theorem Nx.drew {ok : Nat → Prop} {C : Cx} {σ : St} {w : World} (h : R ok C σ w) : Nx ok C σ w C σ w.drew :=
  ⟨h.drew rfl, Ext.refl C, ⟨rfl, rfl, rfl, Nat.le_refl _, fun _ _ => rfl⟩, fun _ _ hc => ⟨rfl, hc⟩, Nat.le_refl _⟩

theorem St.get_put (σ : St) (id m : Nat) (o : AObj) : (σ.put id o).get m = if m = id then some o else σ.get m := get_setS σ.objs id m o
theorem St.next_put (σ : St) (id : Nat) (o : AObj) : (σ.put id o).next = σ.next := rfl

/-- An object is written in its place. -/
theorem R.put {ok : Nat → Prop} {C : Cx} {σ : St} {w w' : World} (h : R ok C σ w) {id cv : Nat} {o o' : AObj} (hg : σ.get id = some o) (hc : C.cur id = some cv)
    (hcur : curOf o' = cv) (ho : ORel C w' o' (C.μ id)) (hos : w'.os = w.os) (ht : w'.tape = w.tape) (hout : w'.output = w.output) (hsz : w'.heap.size = w.heap.size)
    (hbl : ∀ k, k ≠ C.μ id → w'.heap[k]? = w.heap[k]?) (hbs : C.bs (C.μ id) ≤ bsize w' (C.μ id)) : Nx ok C σ w C (σ.put id o') w' := by
  have hlt : id < σ.next := h.lt id o hg
  have hok := (h.obj id o cv hg hc).2.2
  refine ⟨⟨?_, ?_, h.inj, ?_, ?_, h.le, ?_⟩, Ext.refl C, ⟨hos, ht, hout, Nat.le_of_eq hsz.symm, fun k hk => hbl k (fun e => hk (e ▸ hok))⟩, ?_, Nat.le_refl _⟩
  · intro i x cv' hi hci
    rw [St.get_put σ id i o'] at hi
    by_cases e : i = id
    · subst e
      rw [if_pos rfl] at hi
      cases hi
      rw [hc] at hci
      cases hci
      exact ⟨hcur.symm, ho, hok⟩
    · rw [if_neg e] at hi
      obtain ⟨h1, h2, h3⟩ := h.obj i x cv' hi hci
      exact ⟨h1, h2.ext (Ext.refl C) (hbl _ fun e' => e (h.inj i id cv' cv hci hc e')), h3⟩
  · intro i cv' hci
    rw [St.get_put σ id i o']
    by_cases e : i = id
    · exact ⟨o', if_pos e⟩
    · rw [if_neg e]; exact h.dom i cv' hci
  · intro i x hi
    rw [St.get_put σ id i o'] at hi
    by_cases e : i = id
    · rw [e]; exact hlt
    · rw [if_neg e] at hi; exact h.lt i x hi
  · intro b
    by_cases e : b = C.μ id
    · rw [e]; exact hbs
    · have := h.bs b
      unfold bsize at *
      rw [hbl b e]
      exact this
  · intro i cells hi
    rw [St.get_put σ id i o'] at hi
    by_cases e : i = id
    · rw [if_pos e] at hi
      cases hi
      exact ho.elim
    · rw [if_neg e] at hi
      obtain ⟨h1, a, h2, h3⟩ := h.ro i cells hi
      exact ⟨h1, a, h2, h3.keep (Ext.refl C) fun k hk => hbl k fun e => hk (e ▸ hok)⟩
  · intro i hi hci
    have e : i ≠ id := by intro e; rw [e, hc] at hci; cases hci
    exact ⟨by rw [St.get_put σ id i o', if_neg e], hci⟩

/-- The reading with one object more, or anew. -/
def Cx.upd (C : Cx) (id b ver n : Nat) : Cx := { μ := fun i => if i = id then b else C.μ i, cur := fun i => if i = id then some ver else C.cur i, bs := fun k => if k = b then max n (C.bs k) else C.bs k, ra := C.ra }

theorem R.cur_next {ok : Nat → Prop} {C : Cx} {σ : St} {w : World} (h : R ok C σ w) : C.cur σ.next = none := by
  cases hc : C.cur σ.next with
  | none => rfl
  | some cv =>
    obtain ⟨o, ho⟩ := h.dom _ _ hc
    exact absurd (h.lt _ _ ho) (Nat.lt_irrefl _)
theorem Ext.upd_new {C : Cx} {id b n : Nat} (hc : C.cur id = none) : Ext C (C.upd id b 0 n) :=
  ⟨fun i cv hi => by
    have e : i ≠ id := by intro e; rw [e, hc] at hi; cases hi
    exact ⟨cv, by simp [Cx.upd, e, hi], Nat.le_refl _, fun _ => by simp [Cx.upd, e]⟩, fun k => by
    simp only [Cx.upd]; split <;> omega, rfl⟩
theorem Ext.upd_grow {C : Cx} {id b ver n : Nat} (hc : C.cur id = some ver) : Ext C (C.upd id b (ver + 1) n) :=
  ⟨fun i cv hi => by
    by_cases e : i = id
    · subst e
      rw [hc] at hi
      cases hi
      exact ⟨ver + 1, by simp [Cx.upd], by omega, fun e => by omega⟩
    · exact ⟨cv, by simp [Cx.upd, e, hi], Nat.le_refl _, fun _ => by simp [Cx.upd, e]⟩, fun k => by
    simp only [Cx.upd]; split <;> omega, rfl⟩

theorem heap_push_lt (w : World) (o : Obj) (k : Nat) (h : k < w.heap.size) : (w.alloc o).heap[k]? = w.heap[k]? := RowKit.Below.heap_alloc w o k h
theorem heap_push_new (w : World) (o : Obj) : (w.alloc o).heap[w.heap.size]? = some o := by show (w.heap.push o)[w.heap.size]? = some o; simp
theorem bsize_push (w : World) (o : Obj) (k : Nat) : bsize w k ≤ bsize (w.alloc o) k := by
  by_cases h : k < w.heap.size
  · unfold bsize; rw [heap_push_lt w o k h]; exact Nat.le_refl _
  · unfold bsize; rw [Array.getElem?_eq_none (by omega)]; exact Nat.zero_le _

/-- An object is new: memory has one block more. -/
theorem R.new {ok : Nat → Prop} {C : Cx} {σ σ' : St} {w : World} {id : Nat} {o : AObj} (ob : Obj) (n : Nat) (h : R ok C σ w) (hn : σ.new o = some (id, σ')) (hok : ∀ b, w.heap.size ≤ b → ok b)
    (hcur : curOf o = 0) (ho : ∀ C', Ext C C' → ORel C' (w.alloc ob) o w.heap.size) (hbs : n ≤ bsize (w.alloc ob) w.heap.size) :
    id = σ.next ∧ Nx ok C σ w (C.upd id w.heap.size 0 n) σ' (w.alloc ob) := by
  obtain ⟨objs, next⟩ := σ
  simp only [St.new] at hn
  · simp only [force_eq, Option.some.injEq, Prod.mk.injEq] at hn
    obtain ⟨rfl, rfl⟩ := hn
    have hc : C.cur next = none := h.cur_next
    have e := Ext.upd_new (b := w.heap.size) (n := n) hc
    have hget : ∀ m, (⟨objs.set (next + 1) next o, next + 1⟩ : St).get m = if m = next then some o else (⟨objs, next⟩ : St).get m := fun m => get_setS objs next m o
    refine ⟨rfl, ⟨⟨?_, ?_, ?_, ?_, ?_, Nat.zero_le _, ?_⟩, e, ⟨rfl, rfl, rfl, by simp, fun k hk => ?_⟩, ?_, Nat.le_succ _⟩⟩
    · intro i x cv hi hci
      rw [hget] at hi
      by_cases ei : i = next
      · subst ei
        rw [if_pos rfl] at hi
        cases hi
        simp only [Cx.upd, if_true, Option.some.injEq] at hci
        subst hci
        refine ⟨hcur.symm, ?_, ?_⟩
        · simp only [Cx.upd, if_true]; exact ho _ e
        · simp only [Cx.upd, if_true]; exact hok _ (Nat.le_refl _)
      · rw [if_neg ei] at hi
        simp only [Cx.upd, ei, if_false] at hci
        obtain ⟨h1, h2, h3⟩ := h.obj i x cv hi hci
        refine ⟨h1, ?_, ?_⟩
        · simp only [Cx.upd, ei, if_false]
          exact h2.ext e (heap_push_lt w ob _ h2.lt)
        · simp only [Cx.upd, ei, if_false]; exact h3
    · intro i cv hci
      rw [hget]
      by_cases ei : i = next
      · exact ⟨o, if_pos ei⟩
      · rw [if_neg ei]
        simp only [Cx.upd, ei, if_false] at hci
        exact h.dom i cv hci
    · intro i j ci cj hi hj hij
      simp only [Cx.upd] at hi hj hij
      have big : ∀ k ck, C.cur k = some ck → C.μ k < w.heap.size := fun k ck hk => by
        obtain ⟨x, hx⟩ := h.dom k ck hk
        exact (h.obj k x ck hx hk).2.1.lt
      by_cases ei : i = next <;> by_cases ej : j = next
      · rw [ei, ej]
      · simp only [ei, ej, if_true, if_false] at hi hj hij
        have := big j cj hj
        omega
      · simp only [ei, ej, if_true, if_false] at hi hj hij
        have := big i ci hi
        omega
      · simp only [ei, ej, if_false] at hi hj hij
        exact h.inj i j ci cj hi hj hij
    · intro i x hi
      rw [hget] at hi
      by_cases ei : i = next
      · subst ei; exact Nat.lt_succ_self _
      · rw [if_neg ei] at hi
        exact Nat.lt_succ_of_lt (h.lt i x hi)
    · intro b
      have h1 := h.bs b
      have h2 := bsize_push w ob b
      simp only [Cx.upd]
      split
      · rename_i eb
        subst eb
        have h0 : bsize w w.heap.size = 0 := by unfold bsize; rw [Array.getElem?_eq_none (Nat.le_refl _)]
        omega
      · omega
    · intro i cells hi
      rw [hget] at hi
      by_cases ei : i = next
      · rw [if_pos ei] at hi
        cases hi
        exact (ho _ e).elim
      · rw [if_neg ei] at hi
        obtain ⟨h1, a, h2, h3⟩ := h.ro i cells hi
        refine ⟨by simp [Cx.upd, ei, h1], a, h2, h3.keep e fun k hk => ?_⟩
        by_cases hk' : k < w.heap.size
        · exact heap_push_lt w ob k hk'
        · exact absurd (hok k (by omega)) hk
    · by_cases hk' : k < w.heap.size
      · exact heap_push_lt w ob k hk'
      · exact absurd (hok k (by omega)) hk
    · intro i hi hci
      have ei : i ≠ next := Nat.ne_of_lt hi
      exact ⟨by rw [hget, if_neg ei], by simp [Cx.upd, ei, hci]⟩

end Go.Ab
