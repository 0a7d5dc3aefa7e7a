/- Slices read element by element; loads and stores. -/
import Derived.Test.YtmchghdmejbblaaGreatDoorBd
import Derived.IntWalk
set_option linter.unusedSimpArgs false
set_option linter.unusedVariables false
noncomputable section
namespace Go.Ab

def idxP (v : AV) (i n : Nat) : AV := match v with
  | .sl id ver off _ _ _ _ => .ptr id ver (off + i * n)
  | .rsl id off _ => .rptr id (off + i * n)
  | _ => .nilp
def addP (p : AV) (k : Nat) : AV := match p with
  | .ptr id ver off => .ptr id ver (off + k)
  | .rptr id off => .rptr id (off + k)
  | _ => .nilp

/-- The i-th element of a slice: its cells. -/
def Elt (σ : St) (v : AV) (i n : Nat) (c : List AV) : Prop := ∃ len cells, elemsA v n σ = some (len, cells) ∧ i < len ∧ (cells.drop (i * n)).take n = c

theorem rowAt_some {cells r : List AV} {off n : Nat} (h : rowAt cells off n = some r) : off + n ≤ cells.length ∧ r = (cells.drop off).take n := by
  unfold rowAt at h
  split at h
  · rename_i hb; cases h; exact ⟨Nat.le_of_ble_eq_true hb, rfl⟩
  · simp [bad] at h
theorem rowAt_of {cells : List AV} {off n : Nat} (h : off + n ≤ cells.length) : rowAt cells off n = some ((cells.drop off).take n) := by
  unfold rowAt
  rw [Nat.ble_eq_true_of_le h]

/-- What a slice with elements is. -/
theorem elems_cases {v : AV} {n len : Nat} {σ : St} {cells : List AV} (h : elemsA v n σ = some (len, cells)) :
    (v = .nils ∧ len = 0 ∧ cells = []) ∨ (v = .esl ∧ len = 0 ∧ cells = []) ∨
    (∃ id ver off lo ex cs, v = .sl id ver off len lo n ex ∧ len ≤ lo ∧ cellsAt σ id ver = some cs ∧ off + len * n ≤ cs.length ∧ cells = (cs.drop off).take (len * n)) ∨
    (∃ id off cs, v = .rsl id off len ∧ roAt (σ.get id) = some cs ∧ off + len * n ≤ cs.length ∧ cells = (cs.drop off).take (len * n)) := by
  cases v with
  | nils => simp only [elemsA, Option.some.injEq, Prod.mk.injEq] at h; exact .inl ⟨rfl, h.1.symm, h.2.symm⟩
  | esl => simp only [elemsA, Option.some.injEq, Prod.mk.injEq] at h; exact .inr (.inl ⟨rfl, h.1.symm, h.2.symm⟩)
  | sl id ver off l lo sz ex =>
    simp only [elemsA] at h
    cases hc : cellsAt σ id ver with
    | none => rw [hc] at h; simp [elemsIn] at h
    | some cs =>
      rw [hc] at h
      simp only [elemsIn] at h
      split at h
      · rename_i hb
        simp only [Bool.and_eq_true] at hb
        obtain rfl := Nat.eq_of_beq_eq_true hb.1
        split at h
        · rename_i r hr
          simp only [Option.some.injEq, Prod.mk.injEq] at h
          obtain ⟨rfl, rfl⟩ := h
          obtain ⟨h1, h2⟩ := rowAt_some hr
          exact .inr (.inr (.inl ⟨id, ver, off, lo, ex, cs, rfl, Nat.le_of_ble_eq_true hb.2, hc, h1, h2⟩))
        · cases h
      · simp [bad] at h
  | rsl id off l =>
    simp only [elemsA] at h
    cases hc : roAt (σ.get id) with
    | none => rw [hc] at h; simp [elemsR] at h
    | some cs =>
      rw [hc] at h
      simp only [elemsR] at h
      split at h
      · rename_i r hr
        simp only [Option.some.injEq, Prod.mk.injEq] at h
        obtain ⟨rfl, rfl⟩ := h
        obtain ⟨h1, h2⟩ := rowAt_some hr
        exact .inr (.inr (.inr ⟨id, off, cs, rfl, hc, h1, h2⟩))
      · cases h
  | _ => simp [elemsA, bad] at h
theorem elems_one {v : AV} {n len : Nat} {σ : St} {cells : List AV} (h : elemsA v n σ = some (len, cells)) : v.one = true := by
  rcases elems_cases h with ⟨rfl, _⟩ | ⟨rfl, _⟩ | ⟨_, _, _, _, _, _, rfl, _⟩ | ⟨_, _, _, rfl, _⟩ <;> rfl
theorem elems_cells {v : AV} {n len : Nat} {σ : St} {cells : List AV} (h : elemsA v n σ = some (len, cells)) : v.cells = [v] := by
  rcases elems_cases h with ⟨rfl, _⟩ | ⟨rfl, _⟩ | ⟨_, _, _, _, _, _, rfl, _⟩ | ⟨_, _, _, rfl, _⟩ <;> rfl
theorem elems_length {v : AV} {n len : Nat} {σ : St} {cells : List AV} (h : elemsA v n σ = some (len, cells)) : cells.length = len * n := by
  rcases elems_cases h with ⟨_, rfl, rfl⟩ | ⟨_, rfl, rfl⟩ | ⟨_, _, off, _, _, cs, _, _, _, hl, rfl⟩ | ⟨_, off, cs, _, _, hl, rfl⟩
  · simp
  · simp
  · simp only [List.length_take, List.length_drop]; omega
  · simp only [List.length_take, List.length_drop]; omega
theorem len_of {T : Tb} {t e n len : Nat} {v : AV} {σ : St} {cells : List AV} (hu : und T t = some (.slice e)) (h : elemsA v n σ = some (len, cells)) : lenA T [t] [v] σ = some (.int .i64 len) := by
  rcases elems_cases h with ⟨rfl, rfl, _⟩ | ⟨rfl, rfl, _⟩ | ⟨_, _, _, _, _, _, rfl, _⟩ | ⟨_, _, _, rfl, _⟩ <;> simp [lenA, hu, mkInt_eq]

theorem idx_of {i len : Nat} (h : i < len) : idx (i : Int) len = some i := by
  show (match Nat.blt i len with | true => some i | false => bad _) = some i
  have : Nat.blt i len = true := by simpa using h
  rw [this]

section
variable {T : Tb} {σ : St} {v : AV} {i n : Nat} {c : List AV}
theorem Elt.ix (h : Elt σ v i n c) {t e : TypeId} {k : IntKind} (hu : und T t = some (.slice e)) (hn : sizeA T e = some n) : indexAddrA T t v (.int k i) σ = some (idxP v i n) := by
  obtain ⟨len, cells, h, hi, _⟩ := h
  rcases elems_cases h with ⟨_, rfl, _⟩ | ⟨_, rfl, _⟩ | ⟨id, ver, off, lo, ex, cs, rfl, hl, hc, _, _⟩ | ⟨id, off, cs, rfl, hc, _, _⟩
  · omega
  · omega
  · simp only [indexAddrA, hu, hn, hc, indexSl, idx_of hi, Nat.beq_refl, Nat.ble_eq_true_of_le hl, Bool.and_self, mkPtr_eq, idxP]
  · simp only [indexAddrA, hu, hn, indexR, idx_of hi, idxP]
theorem Elt.fa (h : Elt σ v i n c) {s f o : Nat} (hp : ∀ id ver off, fieldAddrA T s (.ptr id ver off) f = some (.ptr id ver (off + o))) (hr : ∀ id off, fieldAddrA T s (.rptr id off) f = some (.rptr id (off + o))) : fieldAddrA T s (idxP v i n) f = some (addP (idxP v i n) o) := by
  obtain ⟨len, cells, h, hi, _⟩ := h
  rcases elems_cases h with ⟨_, rfl, _⟩ | ⟨_, rfl, _⟩ | ⟨id, ver, off, lo, ex, cs, rfl, hl, hc, _, _⟩ | ⟨id, off, cs, rfl, hc, _, _⟩
  · omega
  · omega
  · exact hp _ _ _
  · exact hr _ _
theorem mul_lt {i len n k : Nat} (hi : i < len) (hk : k < n) : i * n + k < len * n := by
  have : (i + 1) * n ≤ len * n := Nat.mul_le_mul_right n hi
  rw [Nat.succ_mul] at this
  omega
theorem Elt.ld (h : Elt σ v i n c) {t k : Nat} {x : AV} (ha : isAggA T t = some false) (hk : k < n) (hx : c[k]? = some x) : loadA T t (addP (idxP v i n) k) σ = some x := by
  obtain ⟨len, cells, h, hi, rfl⟩ := h
  have hx : cells[i * n + k]? = some x := by
    rw [List.getElem?_take, if_pos hk, List.getElem?_drop] at hx
    exact hx
  have hlt := mul_lt hi hk
  rcases elems_cases h with ⟨_, rfl, _⟩ | ⟨_, rfl, _⟩ | ⟨id, ver, off, lo, ex, cs, rfl, hl, hc, hle, rfl⟩ | ⟨id, off, cs, rfl, hc, hle, rfl⟩
  · omega
  · omega
  · rw [List.getElem?_take, if_pos hlt, List.getElem?_drop, ← Nat.add_assoc] at hx
    simp only [idxP, addP, loadA, hc, ha, loadCells]
    exact hx
  · rw [List.getElem?_take, if_pos hlt, List.getElem?_drop, ← Nat.add_assoc] at hx
    simp only [idxP, addP, loadA, hc, ha, loadCells]
    exact hx
theorem addP_zero (p : AV) (h : (∃ a b c, p = .ptr a b c) ∨ (∃ a b, p = .rptr a b)) : addP p 0 = p := by
  rcases h with ⟨a, b, c, rfl⟩ | ⟨a, b, rfl⟩ <;> rfl
theorem Elt.kind (h : Elt σ v i n c) : addP (idxP v i n) 0 = idxP v i n := by
  obtain ⟨len, cells, h, hi, _⟩ := h
  rcases elems_cases h with ⟨_, rfl, _⟩ | ⟨_, rfl, _⟩ | ⟨id, ver, off, lo, ex, cs, rfl, hl, hc, _, _⟩ | ⟨id, off, cs, rfl, hc, _, _⟩
  · omega
  · omega
  · rfl
  · rfl
theorem Elt.ld0 (h : Elt σ v i n c) {t : Nat} {x : AV} (ha : isAggA T t = some false) (hk : 0 < n) (hx : c[0]? = some x) : loadA T t (idxP v i n) σ = some x := by
  rw [← h.kind]; exact h.ld ha hk hx
theorem Elt.lda (h : Elt σ v i n c) {t : Nat} (ha : isAggA T t = some true) (hn : sizeA T t = some n) : loadA T t (idxP v i n) σ = some (.agg c) := by
  obtain ⟨len, cells, h, hi, rfl⟩ := h
  have hle' : i * n + n ≤ len * n := by
    have : (i + 1) * n ≤ len * n := Nat.mul_le_mul_right n hi
    rwa [Nat.succ_mul] at this
  have key : ∀ (cs : List AV) (off : Nat), off + len * n ≤ cs.length → loadCells cs (off + i * n) (some n) (some true) = some (.agg (((((cs.drop off).take (len * n)).drop (i * n))).take n)) := fun cs off hl => by
    simp only [loadCells]
    rw [rowAt_of (by omega)]
    simp only [aggOf]
    rw [List.drop_take, List.take_take, List.drop_drop, Nat.min_eq_left (by omega)]
  rcases elems_cases h with ⟨_, rfl, _⟩ | ⟨_, rfl, _⟩ | ⟨id, ver, off, lo, ex, cs, rfl, hl, hc, hle, rfl⟩ | ⟨id, off, cs, rfl, hc, hle, rfl⟩
  · omega
  · omega
  · simp only [idxP, loadA, hc, ha, hn]
    exact key cs off hle
  · simp only [idxP, loadA, hc, ha, hn]
    exact key cs off hle
end
theorem Rd.elt {α : Type} {p : Nat → Prop} {σ : St} {n : Nat} {E : List AV → α → Prop} {v : AV} {l : List α} (h : Rd p σ n E v l) {i : Nat} {a : α} (hi : l[i]? = some a) : ∃ c, Elt σ v i n c ∧ E c a ∧ c.length = n := by
  obtain ⟨cells, h1, h2, h3⟩ := h
  obtain ⟨e1, e2⟩ := h3.get hi
  exact ⟨_, ⟨_, _, h1, (List.getElem?_eq_some_iff.1 hi).1, rfl⟩, e2, e1⟩
theorem Rd.len {α : Type} {p : Nat → Prop} {σ : St} {n : Nat} {E : List AV → α → Prop} {v : AV} {l : List α} (h : Rd p σ n E v l) {T : Tb} {t e : TypeId} (hu : und T t = some (.slice e)) : lenA T [t] [v] σ = some (.int .i64 l.length) := by
  obtain ⟨cells, h1, h2, h3⟩ := h
  exact len_of hu h1
theorem Rd.one {α : Type} {p : Nat → Prop} {σ : St} {n : Nat} {E : List AV → α → Prop} {v : AV} {l : List α} (h : Rd p σ n E v l) : v.one = true := by
  obtain ⟨cells, h1, h2, h3⟩ := h
  exact elems_one h1
theorem Rd.cells {α : Type} {p : Nat → Prop} {σ : St} {n : Nat} {E : List AV → α → Prop} {v : AV} {l : List α} (h : Rd p σ n E v l) : v.cells = [v] := by
  obtain ⟨cells, h1, h2, h3⟩ := h
  exact elems_cells h1

/-! ### Loads and stores by pointer -/
def ldC (n : Option Nat) (b : Option Bool) (off : Nat) : Option (List AV) → Option AV
  | some cells => loadCells cells off n b
  | none => none
theorem load_ptr {T : Tb} {t id ver off : Nat} {σ : St} : loadA T t (.ptr id ver off) σ = ldC (sizeA T t) (isAggA T t) off (cellsAt σ id ver) := rfl
theorem ldC_one {n : Option Nat} {off : Nat} {cells : List AV} : ldC n (some false) off (some cells) = cells[off]? := rfl
theorem ldC_agg {n off : Nat} {cells : List AV} : ldC (some n) (some true) off (some cells) = aggOf (rowAt cells off n) := rfl
theorem ldC_all {n : Nat} {cells : List AV} (h : cells.length = n) : ldC (some n) (some true) 0 (some cells) = some (.agg cells) := by
  rw [ldC_agg, rowAt_of (by omega)]
  simp only [List.drop_zero, aggOf]
  rw [List.take_of_length_le (by omega)]
def stC (id ver off : Nat) (x : AV) (σ : St) : Option (List AV) → Option Nat → Option St
  | some cells, some n => storeCells id ver off cells x.cells σ n
  | _, _ => bad "store"
theorem store_ptr {T : Tb} {t id ver off : Nat} {x : AV} {σ : St} : storeA T t (.ptr id ver off) x σ = stC id ver off x σ (cellsAt σ id ver) (sizeA T t) := rfl
theorem stC_some {id ver off n : Nat} {x : AV} {σ : St} {cells : List AV} (h1 : x.cells.length = n) (h2 : x.cells.all AV.one = true) (h3 : off + n ≤ cells.length) : stC id ver off x σ (some cells) (some n) = some (σ.put id (.arr ver (spliceAt cells off x.cells))) := by
  show storeCells id ver off cells x.cells σ n = _
  unfold storeCells
  rw [h1, h2, Nat.beq_refl, Nat.ble_eq_true_of_le h3]
  simp only [Bool.and_self, forceL_eq]
theorem wrap_in {n : Int} (h0 : -4611686018427387904 ≤ n) (h1 : n < 4611686018427387904) : IntKind.i64.wrap n = n := by
  exact IntWalk.i64_in n (by omega)
theorem wrapS {i : Nat} (h : i < 1000000000000) : IntKind.i64.wrap ((i : Int) + 1) = ((i + 1 : Nat) : Int) := by
  rw [wrap_in (by omega) (by omega)]; rfl
theorem wrapA {i j : Nat} (h : i + j < 1000000000000) : IntKind.i64.wrap ((i : Int) + (j : Int)) = ((i + j : Nat) : Int) := by
  rw [wrap_in (by omega) (by omega)]; rfl
theorem Gro.next_lt {σ σ' : St} (g : Gro σ σ') {id : Nat} (h : id < σ.next) : id < σ'.next := Nat.lt_of_lt_of_le h g.le
theorem Gro.cells {σ σ' : St} (g : Gro σ σ') {id ver : Nat} (h : id < σ.next) {cs : List AV} (hc : cellsAt σ id ver = some cs) : cellsAt σ' id ver = some cs := by
  unfold cellsAt at *
  rw [g.get id h]
  exact hc
end Go.Ab
