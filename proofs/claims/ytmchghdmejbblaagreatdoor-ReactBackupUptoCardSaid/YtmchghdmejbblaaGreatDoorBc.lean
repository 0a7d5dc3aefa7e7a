/- Arguments that are read become rows of a store that may be read alone; what lists, structs, numbers and strings read as. -/
import Derived.Test.YtmchghdmejbblaaGreatDoorBb
import Derived.ChangeArms
import Derived.ChangeOld
set_option linter.unusedSimpArgs false
set_option linter.unusedVariables false
namespace Go.Ab

/-! ### What a slice reads as -/
structure Gro (σ σ' : St) : Prop where
  le : σ.next ≤ σ'.next
  get : ∀ id, id < σ.next → σ'.get id = σ.get id
theorem Gro.refl (σ : St) : Gro σ σ := ⟨Nat.le_refl _, fun _ _ => rfl⟩
theorem Gro.trans {a b c : St} (h : Gro a b) (k : Gro b c) : Gro a c := ⟨Nat.le_trans h.le k.le, fun id hi => (k.get id (Nat.lt_of_lt_of_le hi h.le)).trans (h.get id hi)⟩

def Keeps (p : Nat → Prop) (σ σ' : St) : Prop := ∀ id, p id → σ'.get id = σ.get id
theorem Gro.keeps {σ σ' : St} (h : Gro σ σ') : Keeps (· < σ.next) σ σ' := fun id hi => h.get id hi
theorem Keeps.trans {p q : Nat → Prop} {a b c : St} (h : Keeps p a b) (k : Keeps q b c) (i : ∀ id, p id → q id) : Keeps p a c := fun id hi => (k id (i id hi)).trans (h id hi)

def AV.at (p : Nat → Prop) : AV → Prop
  | .sl id _ _ _ _ _ _ => p id
  | .rsl id _ _ => p id
  | _ => True
theorem AV.at_mono {p q : Nat → Prop} (i : ∀ id, p id → q id) : ∀ {v : AV}, v.at p → v.at q
  | .sl _ _ _ _ _ _ _, h => i _ h
  | .rsl _ _ _, h => i _ h
  | .bool _, _ | .int _ _, _ | .str _, _ | .nilp, _ | .ptr _ _ _, _ | .nils, _ | .nilm, _ | .mp _, _ | .nilf, _ | .fn _ _ _, _ | .yld _, _ | .agg _, _ | .tup _, _ | .rptr _ _, _ | .esl, _ => trivial

theorem elemsA_keep {p : Nat → Prop} {σ σ' : St} {v : AV} {n : Nat} (h : v.at p) (k : Keeps p σ σ') : elemsA v n σ' = elemsA v n σ := by
  cases v with
  | sl id ver off len lo sz ex => simp only [elemsA, cellsAt]; rw [k id h]
  | rsl id off len => simp only [elemsA]; rw [k id h]
  | _ => rfl

def Chunks {α : Type} (n : Nat) (E : List AV → α → Prop) : List AV → List α → Prop
  | cs, [] => cs = []
  | cs, a :: l => ∃ c r, cs = c ++ r ∧ c.length = n ∧ E c a ∧ Chunks n E r l
theorem Chunks.mono {α : Type} {n : Nat} {E E' : List AV → α → Prop} (i : ∀ c a, E c a → E' c a) : ∀ {l : List α} {cs : List AV}, Chunks n E cs l → Chunks n E' cs l
  | [], _, h => h
  | _ :: _, _, h => by
    obtain ⟨c, r, h1, h2, h3, h4⟩ := h
    exact ⟨c, r, h1, h2, i _ _ h3, Chunks.mono i h4⟩
theorem Chunks.length {α : Type} {n : Nat} {E : List AV → α → Prop} : ∀ {l : List α} {cs : List AV}, Chunks n E cs l → cs.length = l.length * n
  | [], _, h => by cases h; simp
  | a :: l, _, h => by
    obtain ⟨c, r, rfl, h2, h3, h4⟩ := h
    have := Chunks.length h4
    simp only [List.length_append, List.length_cons, h2, this, Nat.succ_mul]
    omega
theorem Chunks.get {α : Type} {n : Nat} {E : List AV → α → Prop} : ∀ {l : List α} {cs : List AV} {i : Nat} {a : α}, Chunks n E cs l → l[i]? = some a → ((cs.drop (i * n)).take n).length = n ∧ E ((cs.drop (i * n)).take n) a
  | [], _, _, _, _, h => by simp at h
  | b :: l, _, i, a, h, hi => by
    obtain ⟨c, r, rfl, h2, h3, h4⟩ := h
    cases i with
    | zero =>
      simp at hi
      subst hi
      subst h2
      simpa using h3
    | succ i =>
      simp at hi
      have := Chunks.get h4 hi
      rw [Nat.succ_mul, Nat.add_comm, ← List.drop_drop]
      subst h2
      simpa using this
theorem Chunks.append {α : Type} {n : Nat} {E : List AV → α → Prop} : ∀ {l l' : List α} {cs cs' : List AV}, Chunks n E cs l → Chunks n E cs' l' → Chunks n E (cs ++ cs') (l ++ l')
  | [], _, _, _, h, h' => by cases h; exact h'
  | a :: l, _, _, _, h, h' => by
    obtain ⟨c, r, rfl, h2, h3, h4⟩ := h
    exact ⟨c, r ++ _, by simp, h2, h3, Chunks.append h4 h'⟩
theorem Chunks.one {α : Type} {n : Nat} {E : List AV → α → Prop} {c : List AV} {a : α} (h : c.length = n) (e : E c a) : Chunks n E c [a] := ⟨c, [], by simp, h, e, rfl⟩

/-- A slice reads as a list; the row lies where p lets. -/
def Rd {α : Type} (p : Nat → Prop) (σ : St) (n : Nat) (E : List AV → α → Prop) (v : AV) (l : List α) : Prop :=
  ∃ cells, elemsA v n σ = some (l.length, cells) ∧ v.at p ∧ Chunks n E cells l
theorem Rd.keep {α : Type} {p q : Nat → Prop} {σ σ' : St} {n : Nat} {E E' : List AV → α → Prop} {v : AV} {l : List α} (h : Rd p σ n E v l) (k : Keeps p σ σ') (i : ∀ id, p id → q id) (e : ∀ c a, E c a → E' c a) : Rd q σ' n E' v l := by
  obtain ⟨cells, h1, h2, h3⟩ := h
  exact ⟨cells, (elemsA_keep h2 k).trans h1, AV.at_mono i h2, h3.mono e⟩

/-! ### Arguments -/
structure Bulk (H : Type) where
  bk : DataW H → Nat
  bks : List (DataW H) → Nat
  lit : ∀ l, 1 ≤ bk (.lit l)
  nil : 1 ≤ bk .nil
  slice : ∀ elems spare, bks elems + 1 ≤ bk (.slice elems spare)
  agg : ∀ parts, bks parts + 1 ≤ bk (.agg parts)
  none : bks [] = 0
  cons : ∀ d r, bks (d :: r) = bk d + bks r

abbrev C0 (r : Nat → Option Addr) : Cx := ⟨fun _ => 0, fun _ => none, fun _ => 0, r⟩
mutual
theorem VR.ra {r r' : Nat → Option Addr} (h : ∀ id a, r id = some a → r' id = some a) : ∀ (a : AV) (v : Value), VR (C0 r) a v → VR (C0 r') a v
  | .bool _, _, k => k
  | .int _ _, _, k => k
  | .str _, _, k => k
  | .nilp, _, k => k
  | .ptr _ _ _, _, k => by obtain ⟨_, _, ⟨cv, hc, _⟩, _⟩ := k; cases hc
  | .nils, _, k => k
  | .sl _ _ _ _ _ _ _, _, k => by obtain ⟨_, _, _, ⟨cv, hc, _⟩, _⟩ := k; cases hc
  | .nilm, _, k => k
  | .mp _, _, k => by obtain ⟨_, _, ⟨cv, hc, _⟩, _⟩ := k; cases hc
  | .nilf, _, k => k
  | .fn _ a b, _, k => by
    obtain ⟨x, y, hv, h1, h2⟩ := k
    exact ⟨x, y, hv, VRs.ra h a _ h1, VRs.ra h b _ h2⟩
  | .yld _, _, k => by obtain ⟨_, _, ⟨cv, hc, _⟩, _⟩ := k; cases hc
  | .agg cs, _, k => by
    obtain ⟨x, hv, h1⟩ := k
    exact ⟨x, hv, VRs.ra h cs _ h1⟩
  | .tup cs, _, k => by
    obtain ⟨x, hv, h1⟩ := k
    exact ⟨x, hv, VRs.ra h cs _ h1⟩
  | .rsl _ _ _, _, k => by
    obtain ⟨b, c, hv, hl, a, h1, h2⟩ := k
    exact ⟨b, c, hv, hl, a, h _ _ h1, h2⟩
  | .rptr _ _, _, k => by
    obtain ⟨a, hv, h1⟩ := k
    exact ⟨a, hv, h _ _ h1⟩
  | .esl, _, k => k
theorem VRs.ra {r r' : Nat → Option Addr} (h : ∀ id a, r id = some a → r' id = some a) : ∀ (l : List AV) (vs : List Value), VRs (C0 r) l vs → VRs (C0 r') l vs
  | [], _, k => k
  | a :: as, _, k => by
    obtain ⟨v, vs, hv, h1, h2⟩ := k
    exact ⟨v, vs, hv, VR.ra h a v h1, VRs.ra h as vs h2⟩
end

/-- A store of rows alone. -/
structure R0 (W : World) (r : Nat → Option Addr) (σ : St) : Prop where
  rel : R (fun b => W.heap.size ≤ b) (C0 r) σ W
  ra : ∀ id a, r id = some a → id < σ.next
structure Setup (W : World) (r : Nat → Option Addr) (σ : St) (r' : Nat → Option Addr) (σ' : St) : Prop where
  rel : R0 W r' σ'
  ra : ∀ id a, r id = some a → r' id = some a
  gro : Gro σ σ'
theorem Setup.refl {W : World} {r : Nat → Option Addr} {σ : St} (h : R0 W r σ) : Setup W r σ r σ := ⟨h, fun _ _ h => h, Gro.refl σ⟩
theorem Setup.trans {W : World} {r r' r'' : Nat → Option Addr} {σ σ' σ'' : St} (h : Setup W r σ r' σ') (k : Setup W r' σ' r'' σ'') : Setup W r σ r'' σ'' :=
  ⟨k.rel, fun id a e => k.ra id a (h.ra id a e), h.gro.trans k.gro⟩

theorem St.new_eq (σ : St) (o : AObj) : ∃ σ', σ.new o = some (σ.next, σ') ∧ σ'.next = σ.next + 1 ∧ ∀ m, σ'.get m = if m = σ.next then some o else σ.get m := by
  obtain ⟨objs, next⟩ := σ
  exact ⟨⟨objs.set (next + 1) next o, next + 1⟩, rfl, rfl, fun m => get_setS objs next m o⟩

/-- A row more. -/
theorem R0.row {W : World} {r : Nat → Option Addr} {σ : St} (h : R0 W r σ) (cells : List AV) (a : Addr) (ha : a.block < W.heap.size)
    (hc : ∀ i x, cells[i]? = some x → ∃ v, W.cell? (a.add i) = some v ∧ VR (C0 r) x v) : ∃ r' σ', Setup W r σ r' σ' ∧ σ'.next = σ.next + 1 ∧ σ'.get σ.next = some (.ro cells) ∧ r' σ.next = some a := by
  obtain ⟨σ', hn, hx, hg⟩ := St.new_eq σ (.ro cells)
  have hra : ∀ id b, r id = some b → (fun id => if id = σ.next then some a else r id) id = some b := fun id b e => by
    have : id ≠ σ.next := Nat.ne_of_lt (h.ra id b e)
    simp [this, e]
  refine ⟨fun id => if id = σ.next then some a else r id, σ', ⟨⟨⟨?_, ?_, ?_, ?_, fun b => Nat.zero_le _, Nat.zero_le _, ?_⟩, ?_⟩, hra, ⟨by omega, fun id hi => ?_⟩⟩, hx, ?_, by simp⟩
  · intro id o cv _ hc; cases hc
  · intro id cv hc; cases hc
  · intro id id' cv cv' hc; cases hc
  · intro id o hi
    rw [hg] at hi
    by_cases e : id = σ.next
    · omega
    · rw [if_neg e] at hi
      have := h.rel.lt id o hi
      omega
  · intro id cs hi
    rw [hg] at hi
    refine ⟨rfl, ?_⟩
    by_cases e : id = σ.next
    · subst e
      rw [if_pos rfl] at hi
      cases hi
      refine ⟨a, by simp, by omega, fun i x hx => ?_⟩
      obtain ⟨v, h1, h2⟩ := hc i x hx
      exact ⟨v, h1, VR.ra hra _ _ h2⟩
    · rw [if_neg e] at hi
      obtain ⟨_, b, h1, h2, h3⟩ := h.rel.ro id cs hi
      refine ⟨b, hra id b h1, h2, fun i x hx => ?_⟩
      obtain ⟨v, h4, h5⟩ := h3 i x hx
      exact ⟨v, h4, VR.ra hra _ _ h5⟩
  · intro id b e
    by_cases e' : id = σ.next
    · omega
    · simp only [e', if_false] at e
      have := h.ra id b e
      omega
  · rw [hg, if_neg (Nat.ne_of_lt hi)]
  · rw [hg, if_pos rfl]

section
variable {H : Type} (enc : TypeId × Value → H) (P : Program) (W : World) (K : Bulk H)

/-- What a type's data reads as. -/
structure Adm {α : Type} (t : TypeId) (n : Nat) (E : St → List AV → α → Prop) (sz : α → Nat) : Prop where
  lay : ∀ fuel cs d ps, DataW.trod enc P W 0 (fun _ => true) true fuel t cs = some (d, ps) → ∀ r σ, R0 W r σ →
    ∃ r' σ' avs a, Setup W r σ r' σ' ∧ VRs (C0 r') avs cs ∧ E σ' avs a ∧ avs.length = n ∧ avs.all AV.one = true ∧ sz a ≤ K.bk d
  mono : ∀ σ σ' c a, Gro σ σ' → E σ c a → E σ' c a

variable {enc P W K}
theorem Adm.int {t : TypeId} {k : IntKind} (ht : P.underlying t = some (.int k)) : Adm enc P W K t 1 (fun _ c (a : Int) => c = [.int k a] ∧ (Lit.int k a).wf = true) (fun _ => 1) := by
  refine ⟨fun fuel cs d ps h r σ hR => ?_, fun σ σ' c a _ h => h⟩
  obtain ⟨n, rfl, hx, hw⟩ := DataW.trod_int ht h
  cases hx
  exact ⟨r, σ, [.int k n], n, Setup.refl hR, VRs.one rfl, ⟨rfl, hw⟩, rfl, rfl, K.lit _⟩
theorem Adm.bool {t : TypeId} (ht : P.underlying t = some .bool) : Adm enc P W K t 1 (fun _ c (a : Bool) => c = [.bool a]) (fun _ => 1) := by
  refine ⟨fun fuel cs d ps h r σ hR => ?_, fun σ σ' c a _ h => h⟩
  obtain ⟨n, rfl, hx⟩ := DataW.trod_bool ht h
  cases hx
  exact ⟨r, σ, [.bool n], n, Setup.refl hR, VRs.one rfl, rfl, rfl, rfl, K.lit _⟩
theorem Adm.string {t : TypeId} (ht : P.underlying t = some .string) : Adm enc P W K t 1 (fun _ c (a : ByteArray) => c = [.str a]) (fun _ => 1) := by
  refine ⟨fun fuel cs d ps h r σ hR => ?_, fun σ σ' c a _ h => h⟩
  obtain ⟨n, rfl, hx, _⟩ := DataW.trod_string ht h
  cases hx
  exact ⟨r, σ, [.str n], n, Setup.refl hR, VRs.one rfl, rfl, rfl, rfl, K.lit _⟩

theorem Adm.elems {α : Type} {t : TypeId} {n : Nat} {E : St → List AV → α → Prop} {sz : α → Nat} (A : Adm enc P W K t n E sz) (hn : P.cellsOf t = n) (a : Addr) (fuel : Nat) :
    ∀ (es : List (DataW H × List MemPlace)) (j : Nat), (∀ i, i < es.length → (W.cells? 0 (a.add ((j + i) * n)) n).bind (DataW.trod enc P W 0 (fun _ => true) true fuel t) = es[i]?) →
    ∀ r σ, R0 W r σ →
    ∃ r' σ' avs l, Setup W r σ r' σ' ∧ (∀ i x, avs[i]? = some x → ∃ v, W.cell? (a.add (j * n + i)) = some v ∧ VR (C0 r') x v) ∧ Chunks n (E σ') avs l ∧ l.length = es.length ∧ avs.all AV.one = true ∧
      (l.map sz).sum ≤ K.bks (es.map (·.1))
  | [], j, _, r, σ, hR => ⟨r, σ, [], [], Setup.refl hR, fun i x h => by simp at h, rfl, rfl, rfl, Nat.zero_le _⟩
  | e :: es, j, hes, r, σ, hR => by
    rw [List.map_cons, K.cons]
    have h0 := hes 0 (by simp)
    simp only [Nat.add_zero, List.getElem?_cons_zero, Option.bind_eq_some_iff] at h0
    obtain ⟨cs, hc, ht⟩ := h0
    obtain ⟨d, ps⟩ := e
    obtain ⟨r1, σ1, avs1, a1, s1, v1, e1, l1, o1, z1⟩ := A.lay fuel cs d ps ht r σ hR
    obtain ⟨r2, σ2, avs2, l2, s2, v2, e2, l2', o2, z2⟩ := Adm.elems A hn a fuel es (j + 1) (fun i hi => by
      have := hes (i + 1) (by simp; omega)
      rw [show j + (i + 1) = j + 1 + i by omega] at this
      simpa using this) r1 σ1 s1.rel
    refine ⟨r2, σ2, avs1 ++ avs2, a1 :: l2, s1.trans s2, fun i x hx => ?_, ⟨avs1, avs2, rfl, l1, A.mono _ _ _ _ s2.gro e1, e2⟩, by simp [l2'], by simp [o1, o2], ?_⟩
    · by_cases hi : i < avs1.length
      · rw [List.getElem?_append_left hi] at hx
        obtain ⟨_, hcl, hcc⟩ := World.cells?_some hc
        obtain ⟨v, hv1, hv2⟩ := VRs.get v1 hx
        refine ⟨v, ?_, VR.ra s2.ra _ _ hv2⟩
        have := hcc i (by omega)
        rw [add_add] at this
        exact this.trans hv1
      · rw [List.getElem?_append_right (by omega)] at hx
        obtain ⟨v, hv1, hv2⟩ := v2 _ x hx
        refine ⟨v, ?_, hv2⟩
        rw [← hv1, Nat.succ_mul]
        congr 2
        omega
    · simp only [List.map_cons, List.sum_cons]
      omega
theorem Adm.slice {α : Type} {t e : TypeId} {n : Nat} {E : St → List AV → α → Prop} {sz : α → Nat} (A : Adm enc P W K e n E sz) (ht : P.underlying t = some (.slice e)) (hn : P.cellsOf e = n) (h0 : 0 < n) :
    Adm enc P W K t 1 (fun σ c (l : List α) => ∃ v, c = [v] ∧ Rd (· < σ.next) σ n (E σ) v l) (fun l => (l.map sz).sum + 1) := by
  refine ⟨fun fuel cs d ps h r σ hR => ?_, fun σ σ' c a g h => ?_⟩
  · rcases DataW.trod_slice ht h with ⟨rfl, hx⟩ | ⟨a, len, cap, elems, rest, m, rfl, rfl, hx, _, hlc, _, hlen, hel, hsp, _⟩
    · cases hx
      exact ⟨r, σ, [.nils], [], Setup.refl hR, VRs.one rfl, ⟨.nils, rfl, [], rfl, trivial, rfl⟩, rfl, rfl, K.nil⟩
    · cases hx
      have hs := K.slice (elems.map (·.1)) (rest.map (·.1))
      subst hlen
      rw [hn] at hel hsp
      by_cases hcap : cap = 0
      · have hz : elems = [] := List.eq_nil_of_length_eq_zero (by omega)
        subst hz
        subst hcap
        exact ⟨r, σ, [.esl], [], Setup.refl hR, VRs.one ⟨a, rfl⟩, ⟨.esl, rfl, [], rfl, trivial, rfl⟩, rfl, rfl, (by simp only [List.map_nil, List.sum_nil]; have := Nat.zero_le (K.bks (List.map (fun x : DataW H × List MemPlace => x.1) [])); exact Nat.le_trans (Nat.le_add_left _ _) hs)⟩
      · have hblk : a.block < W.heap.size := by
          by_cases hz : elems.length = 0
          · obtain ⟨hr, hsp⟩ := hsp rfl
            have := hsp 0 (by omega)
            have h1 : 0 < rest.length := by omega
            obtain ⟨q, hq⟩ : ∃ q, rest[0]? = some q := ⟨rest[0], by simp⟩
            rw [hq] at this
            simp only [Option.bind_eq_some_iff] at this
            obtain ⟨cs, hc, _⟩ := this
            have := World.cells?_block hc h0
            rwa [add_block] at this
          · have := hel 0 (by omega)
            obtain ⟨q, hq⟩ : ∃ q, elems[0]? = some q := ⟨elems[0], by simp⟩
            rw [hq] at this
            simp only [Option.bind_eq_some_iff] at this
            obtain ⟨cs, hc, _⟩ := this
            have := World.cells?_block hc h0
            rwa [add_block] at this
        obtain ⟨r1, σ1, avs, l, s1, v1, c1, l1, o1, z1⟩ := A.elems hn a m elems 0 (fun i hi => by simpa using hel i hi) r σ hR
        obtain ⟨r2, σ2, s2, hnx, hg, hra⟩ := R0.row s1.rel avs a hblk (fun i x hx => by simpa using v1 i x hx)
        have hcl := c1.length
        refine ⟨r2, σ2, [.rsl σ1.next 0 elems.length], l, s1.trans s2, VRs.one ⟨a, cap, rfl, hlc, a, hra, fun _ => rfl⟩, ⟨_, rfl, avs, ?_, ?_, c1.mono fun c a e => A.mono _ _ _ _ s2.gro e⟩, rfl, rfl, by omega⟩
        · simp only [elemsA, hg, roAt, elemsR]
          have : rowAt avs 0 (elems.length * n) = some avs := by
            unfold rowAt
            have hb : Nat.ble (0 + elems.length * n) avs.length = true := by rw [Nat.ble_eq]; rw [hcl, l1]; omega
            rw [hb]
            simp only [List.drop_zero]
            rw [List.take_of_length_le (by rw [hcl, l1]; omega)]
          rw [this, l1]
        · show σ1.next < σ2.next
          omega
  · obtain ⟨v, hc, hr⟩ := h
    exact ⟨v, hc, hr.keep g.keeps (fun id hi => Nat.lt_of_lt_of_le hi g.le) fun c a e => A.mono _ _ _ _ g e⟩

/-! ### Structs, field by field -/
variable (enc P W K) in
structure AdmF {α : Type} (fs : List Field) (start : Nat) (n : Nat) (E : St → List AV → α → Prop) (sz : α → Nat) : Prop where
  lay : ∀ fuel (xs : List (DataW H × List MemPlace)) (cs : List Value), (∀ (i : Nat) (f : Field), fs[i]? = some f → DataW.trod enc P W 0 (fun _ => true) true fuel f.type ((cs.drop f.offset).take (P.cellsOf f.type)) = xs[i]?) → xs.length = fs.length → cs.length = start + n →
    ∀ r σ, R0 W r σ →
    ∃ r' σ' avs a, Setup W r σ r' σ' ∧ VRs (C0 r') avs (cs.drop start) ∧ E σ' avs a ∧ avs.length = n ∧ avs.all AV.one = true ∧ sz a ≤ K.bks (xs.map (·.1))
  mono : ∀ σ σ' c a, Gro σ σ' → E σ c a → E σ' c a
theorem AdmF.nil {start : Nat} : AdmF enc P W K [] start 0 (fun _ c (_ : Unit) => c = []) (fun _ => 0) := by
  refine ⟨fun fuel xs cs _ _ hl r σ hR => ?_, fun σ σ' c a _ h => h⟩
  refine ⟨r, σ, [], (), Setup.refl hR, ?_, rfl, rfl, rfl, Nat.zero_le _⟩
  rw [List.drop_eq_nil_of_le (by omega)]
  rfl
theorem AdmF.cons {α β : Type} {f : Field} {fs : List Field} {start m n : Nat} {E : St → List AV → α → Prop} {F : St → List AV → β → Prop} {sz : α → Nat} {sy : β → Nat}
    (A : Adm enc P W K f.type m E sz) (B : AdmF enc P W K fs (start + m) n F sy) (ho : f.offset = start) (hm : P.cellsOf f.type = m) :
    AdmF enc P W K (f :: fs) start (m + n) (fun σ c (x : α × β) => ∃ c1 c2, c = c1 ++ c2 ∧ c1.length = m ∧ E σ c1 x.1 ∧ F σ c2 x.2) (fun x => sz x.1 + sy x.2) := by
  refine ⟨fun fuel xs cs hx hxl hl r σ hR => ?_, fun σ σ' c a g h => ?_⟩
  · cases xs with
    | nil => simp at hxl
    | cons x xs =>
      obtain ⟨d, ps⟩ := x
      rw [List.map_cons, K.cons]
      have h0 := hx 0 f rfl
      rw [ho, hm] at h0
      obtain ⟨r1, σ1, avs1, a1, s1, v1, e1, l1, o1, z1⟩ := A.lay fuel _ d ps h0 r σ hR
      obtain ⟨r2, σ2, avs2, a2, s2, v2, e2, l2, o2, z2⟩ := B.lay fuel xs cs (fun i g hg => by
        have := hx (i + 1) g (by simpa using hg)
        simpa using this) (by simpa using hxl) (by omega) r1 σ1 s1.rel
      refine ⟨r2, σ2, avs1 ++ avs2, (a1, a2), s1.trans s2, ?_, ⟨avs1, avs2, rfl, l1, A.mono _ _ _ _ s2.gro e1, e2⟩, by simp [l1, l2], by simp [o1, o2], by simp only; omega⟩
      have : cs.drop start = (cs.drop start).take m ++ cs.drop (start + m) := by
        rw [← List.drop_drop, List.take_append_drop]
      rw [this]
      exact VRs.append (VRs.ra s2.ra _ _ v1) v2
  · obtain ⟨c1, c2, h1, h2, h3, h4⟩ := h
    exact ⟨c1, c2, h1, h2, A.mono _ _ _ _ g h3, B.mono _ _ _ _ g h4⟩
theorem Adm.struct {α : Type} {t : TypeId} {fs : Array Field} {n : Nat} {E : St → List AV → α → Prop} {sz : α → Nat} (ht : P.underlying t = some (.struct fs)) (hn : P.cellsOf t = n) (B : AdmF enc P W K fs.toList 0 n E sz) : Adm enc P W K t n E sz := by
  refine ⟨fun fuel cs d ps h r σ hR => ?_, B.mono⟩
  obtain ⟨xs, m, rfl, hx, hcl, hxl, hf⟩ := DataW.trod_struct ht h
  cases hx
  have hs := K.agg (xs.map (·.1))
  obtain ⟨r1, σ1, avs, a, s1, v1, e1, l1, o1, z1⟩ := B.lay m xs cs (fun i f hi => hf i f (by simpa using hi)) (by simpa using hxl) (by omega) r σ hR
  exact ⟨r1, σ1, avs, a, s1, by simpa using v1, e1, l1, o1, by omega⟩
theorem Adm.map {α β : Type} {t : TypeId} {n : Nat} {E : St → List AV → α → Prop} {sz : α → Nat} (A : Adm enc P W K t n E sz) (E' : St → List AV → β → Prop) (sz' : β → Nat) (f : α → β)
    (hE : ∀ σ c a, E σ c a → E' σ c (f a)) (hm : ∀ σ σ' c a, Gro σ σ' → E' σ c a → E' σ' c a) (hs : ∀ a, sz' (f a) ≤ sz a) : Adm enc P W K t n E' sz' := by
  refine ⟨fun fuel cs d ps h r σ hR => ?_, hm⟩
  obtain ⟨r', σ', avs, a, h1, h2, h3, h4, h5, h6⟩ := A.lay fuel cs d ps h r σ hR
  exact ⟨r', σ', avs, f a, h1, h2, hE _ _ _ h3, h4, h5, Nat.le_trans (hs a) h6⟩
end
end Go.Ab
