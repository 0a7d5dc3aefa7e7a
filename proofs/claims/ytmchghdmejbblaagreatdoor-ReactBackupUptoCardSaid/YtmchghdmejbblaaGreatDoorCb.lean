/- slices.Delete of one queue. -/
import Derived.Test.YtmchghdmejbblaaGreatDoorCa
set_option linter.unusedSimpArgs false
set_option linter.unusedVariables false
noncomputable section
namespace Go.Proofs.YtmchghdmejbblaaGreatDoor
open Go Go.Ab Go.RowKit

section
variable {σ : St} {id ver len lo i : Nat} {ex : Bool} {cells : List AV}
theorem cut_to (h : i ≤ lo) : sliceA Mq.T 61 (.sl id ver 0 len lo 2 ex) none (some (.int .i64 (i : Nat))) none = some (.sl id ver 0 i lo 2 ex) := by
  simp only [sliceA, und61, sliceSl, sz81, boundA, natOf, slice2, Nat.beq_refl, Nat.ble_eq_true_of_le (Nat.zero_le i), Nat.ble_eq_true_of_le h, Bool.and_self, mkSl_eq, Nat.zero_mul, Nat.add_zero, Nat.sub_zero]
theorem cut_from (h : i ≤ len) (h2 : len ≤ lo) : sliceA Mq.T 61 (.sl id ver 0 len lo 2 ex) (some (.int .i64 (i : Nat))) none none = some (.sl id ver (i * 2) (len - i) (lo - i) 2 ex) := by
  simp only [sliceA, und61, sliceSl, sz81, boundA, natOf, slice2, Nat.beq_refl, Nat.ble_eq_true_of_le h, Nat.ble_eq_true_of_le h2, Bool.and_self, mkSl_eq, Nat.zero_add]
theorem cut_both {h : Nat} (h1 : i ≤ h) (h2 : h ≤ lo) : sliceA Mq.T 61 (.sl id ver 0 len lo 2 ex) (some (.int .i64 (i : Nat))) (some (.int .i64 (h : Nat))) none = some (.sl id ver (i * 2) (h - i) (lo - i) 2 ex) := by
  simp only [sliceA, und61, sliceSl, sz81, boundA, natOf, slice2, Nat.beq_refl, Nat.ble_eq_true_of_le h1, Nat.ble_eq_true_of_le h2, Bool.and_self, mkSl_eq, Nat.zero_add]
theorem cut_max {h m : Nat} (h1 : i ≤ h) (h2 : h ≤ m) (h3 : m ≤ lo) : ∃ v, sliceA Mq.T 61 (.sl id ver 0 len lo 2 ex) (some (.int .i64 (i : Nat))) (some (.int .i64 (h : Nat))) (some (.int .i64 (m : Nat))) = some v := by
  refine ⟨.sl id ver (i * 2) (h - i) (m - i) 2 true, ?_⟩
  simp only [sliceA, und61, sliceSl, sz81, boundA, natOf, slice3, Nat.beq_refl, Nat.ble_eq_true_of_le h1, Nat.ble_eq_true_of_le h2, Nat.ble_eq_true_of_le h3, Bool.and_self, mkSl_eq, Nat.zero_add]

theorem append_del (hg : σ.get id = some (.arr ver cells)) (hl : cells.length = len * 2) (hlo : len ≤ lo) (hi : i < len) (hlen : len ≤ Bd) (hone : cells.all AV.one = true) :
    ∃ σ1 cells1, appendA Mq.T [61, 61] [.sl id ver 0 i lo 2 ex, .sl id ver ((i + 1) * 2) (len - (i + 1)) (lo - (i + 1)) 2 ex] σ = some (.sl id ver 0 (len - 1) lo 2 ex, σ1) ∧ σ1.next = σ.next ∧ (∀ k, k ≠ id → σ1.get k = σ.get k) ∧ σ1.get id = some (.arr ver cells1) ∧ cells1.length = len * 2 ∧
      cells1.take ((len - 1) * 2) = cells.take (i * 2) ++ cells.drop ((i + 1) * 2) ∧ cells1.all AV.one = true := by
  unfold Bd at hlen
  have hx : elemsA (.sl id ver ((i + 1) * 2) (len - (i + 1)) (lo - (i + 1)) 2 ex) 2 σ = some (len - (i + 1), cells.drop ((i + 1) * 2)) := by
    simp only [elemsA, cellsAt_of hg, elemsIn, Nat.beq_refl, Nat.ble_eq_true_of_le (show len - (i + 1) ≤ lo - (i + 1) by omega), Bool.and_self]
    rw [rowAt_of (by omega), List.take_of_length_le (by rw [List.length_drop]; omega)]
  have hdo : (cells.drop ((i + 1) * 2)).all AV.one = true := by
    rw [List.all_eq_true] at hone ⊢
    exact fun x hx => hone x (List.mem_of_mem_drop hx)
  have key : appendA Mq.T [61, 61] [.sl id ver 0 i lo 2 ex, .sl id ver ((i + 1) * 2) (len - (i + 1)) (lo - (i + 1)) 2 ex] σ = apTo 2 (len - (i + 1)) (cells.drop ((i + 1) * 2)) σ (.sl id ver 0 i lo 2 ex) := by
    have h0 : Nat.blt 0 2 = true := rfl
    have h1 : Nat.ble 32 65536 = true := rfl
    have h2 : Nat.blt 0 32 = true := rfl
    have h3 : Nat.beq 2 2 = true := rfl
    have h4 : (AV.agg [.int .i64 0, .nils]).cells.length = 2 := rfl
    simp only [appendA, und61, sz81, by81, zr81, appendTo, hx, h0, h1, h2, h3, h4, hdo, Bool.and_self, apTo]
  have hil : Nat.ble i lo = true := Nat.ble_eq_true_of_le (by omega)
  have hsm : Nat.ble (i + (len - (i + 1))) 16777216 = true := Nat.ble_eq_true_of_le (by omega)
  have hfit : Nat.ble (i + (len - (i + 1))) lo = true := Nat.ble_eq_true_of_le (by omega)
  have hsum : i + (len - (i + 1)) = len - 1 := by omega
  by_cases hk : len - (i + 1) = 0
  · have hil2 : i = len - 1 := by omega
    refine ⟨σ, cells, ?_, rfl, fun _ _ => rfl, hg, hl, ?_, hone⟩
    · rw [key]
      simp only [apTo, cellsAt_of hg, appendSl, Nat.beq_refl, hil, hsm, hfit, Bool.and_self, appendIn, beq_yes hk]
      rw [hil2]
    · rw [List.drop_eq_nil_of_le (by omega), List.append_nil, hil2]
  · refine ⟨σ.put id (.arr ver (spliceAt cells (i * 2) (cells.drop ((i + 1) * 2)))), _, ?_, next_put, fun k h => by rw [get_put, if_neg h], get_put_same, ?_, ?_, ?_⟩
    · rw [key]
      simp only [apTo, cellsAt_of hg, appendSl, Nat.beq_refl, hil, hsum, Nat.ble_eq_true_of_le (show len - 1 ≤ 16777216 by omega), Nat.ble_eq_true_of_le (show len - 1 ≤ lo by omega), Bool.and_self, appendIn, beq_no hk, Nat.zero_add, Nat.ble_eq_true_of_le (show (len - 1) * 2 ≤ cells.length by omega), mkSl_eq]
    · simp only [spliceAt, List.length_append, List.length_take, List.length_drop]
      omega
    · simp only [spliceAt]
      rw [List.take_left' (by simp only [List.length_append, List.length_take, List.length_drop]; omega)]
    · rw [List.all_eq_true] at hone hdo ⊢
      intro x hx
      simp only [spliceAt, List.mem_append] at hx
      rcases hx with (hx | hx) | hx
      · exact hone x (List.mem_of_mem_take hx)
      · exact hdo x hx
      · exact hone x (List.mem_of_mem_drop hx)
theorem clear_one (hg : σ.get id = some (.arr ver cells)) (hl : cells.length = len * 2) (hlo : len ≤ lo) (h0 : 0 < len) :
    ∃ σ1 cells1, clearA Mq.T [61] [.sl id ver ((len - 1) * 2) 1 (lo - (len - 1)) 2 ex] σ = some σ1 ∧ σ1.next = σ.next ∧ (∀ k, k ≠ id → σ1.get k = σ.get k) ∧ σ1.get id = some (.arr ver cells1) ∧ cells1.length = len * 2 ∧ cells1.take ((len - 1) * 2) = cells.take ((len - 1) * 2) := by
  refine ⟨σ.put id (.arr ver (spliceAt cells ((len - 1) * 2) (repeatA [.int .i64 0, .nils] 1))), _, ?_, next_put, fun k h => by rw [get_put, if_neg h], get_put_same, ?_, ?_⟩
  · have h1 : Nat.beq 1 0 = false := rfl
    have h2 : Nat.beq (AV.agg [.int .i64 0, .nils]).cells.length 2 = true := rfl
    have h3 : (AV.agg [.int .i64 0, .nils]).cells.all AV.one = true := rfl
    simp only [clearA, und61, h1, zr81, clearIn, cellsAt_of hg, h2, h3, Nat.ble_eq_true_of_le (show 1 ≤ lo - (len - 1) by omega), Nat.ble_eq_true_of_le (show (len - 1) * 2 + 1 * 2 ≤ cells.length by omega), Bool.and_self]
    rfl
  · simp only [spliceAt, repeatA, List.append_nil, List.length_append, List.length_take, List.length_drop, List.length_cons, List.length_nil]
    omega
  · simp only [spliceAt]
    rw [List.append_assoc, List.take_left' (by rw [List.length_take]; omega)]

set_option maxRecDepth 100000 in
theorem delete_ok (hg : σ.get id = some (.arr ver cells)) (hl : cells.length = len * 2) (hlo : len ≤ lo) (hi : i < len) (hlen : len ≤ Bd) (hone : cells.all AV.one = true) :
    Ca Mq 141 [.sl id ver 0 len lo 2 ex, .int .i64 (i : Nat), .int .i64 ((i + 1 : Nat) : Int)] σ fun r σ' => r = .sl id ver 0 (len - 1) lo 2 ex ∧ σ'.next = σ.next ∧ (∀ k, k ≠ id → σ'.get k = σ.get k) ∧ elemsA r 2 σ' = some (len - 1, cells.take (i * 2) ++ cells.drop ((i + 1) * 2)) := by
  have hx : ∀ {τ : St} {cs : List AV} {n : Nat}, τ.get id = some (.arr ver cs) → n ≤ lo → n * 2 ≤ cs.length → elemsA (.sl id ver 0 n lo 2 ex) 2 τ = some (n, cs.take (n * 2)) := fun h1 h2 h3 => by
    simp only [elemsA, cellsAt_of h1, elemsIn, Nat.beq_refl, Nat.ble_eq_true_of_le h2, Bool.and_self]
    rw [rowAt_of (by omega), List.drop_zero]
  have l1 := len_of und61 (hx hg hlo (by omega))
  obtain ⟨v13, e13⟩ := cut_max (id := id) (ver := ver) (len := len) (lo := lo) (ex := ex) (i := i) (h := i + 1) (m := len) (by omega) (by omega) hlo
  obtain ⟨σ1, cells1, a1, a2, a3, a4, a5, a6, a7⟩ := append_del (ex := ex) hg hl hlo hi hlen hone
  obtain ⟨σ2, cells2, b1, b2, b3, b4, b5, b6⟩ := clear_one (ex := ex) a4 a5 hlo (by omega)
  have l2 := len_of und61 (hx (n := len - 1) a4 (by omega) (by omega))
  have hsub : len - (len - 1) = 1 := by omega
  have c3 := cut_both (id := id) (ver := ver) (len := len - 1) (lo := lo) (ex := ex) (i := len - 1) (h := len) (by omega) hlo
  rw [hsub] at c3
  refine Ca.enter (fn := Tryz.f141) rfl (by kernel_rfl) rfl (by kernel_rfl) (Nat.le_of_ble_eq_true rfl) 33 _ rfl rfl ?_
  generalize hQ : Leave Mq Tryz.f141 _ = Q
  simp only [WW, argTmps, if_true, if_false, Nat.reduceLT, Nat.reduceEqDiff, Nat.zero_add, Nat.reduceAdd, List.getElem?_toArray, List.getElem?_cons_zero, List.getElem?_cons_succ, List.length_cons, List.length_nil, Option.map_some, reduceCtorEq, Nat.succ_ne_self, Nat.one_ne_zero, Nat.zero_ne_one, Option.some_beq_some, beq_self_eq_true, Bool.not_true, Bool.not_false, Bool.true_beq, Bool.false_beq, WT, l1, e13, decide_eq_false (show ¬ ((i : Nat) : Int) = ((i + 1 : Nat) : Int) by omega)]
  refine Co_draw [] [0, 1, 2, 3, 4, 5, 6, 7] (by kernel_rfl) (by kernel_rfl) (by kernel_rfl) ?_
  simp only [WW, argTmps, if_true, if_false, Nat.reduceLT, Nat.reduceEqDiff, Nat.zero_add, Nat.reduceAdd, List.getElem?_toArray, List.getElem?_cons_zero, List.getElem?_cons_succ, List.length_cons, List.length_nil, Option.map_some, reduceCtorEq, Nat.succ_ne_self, Nat.one_ne_zero, Nat.zero_ne_one, Option.some_beq_some, beq_self_eq_true, Bool.not_true, Bool.not_false, Bool.true_beq, Bool.false_beq, WD, and_true, true_and, and_self, WT, cut_to (show i ≤ lo by omega), cut_from (show i + 1 ≤ len by omega) hlo, a1, l2, c3, callee_clear, b1]
  subst hQ
  refine leave_tmp (d := 6) rfl (by simp only [WW, argTmps, if_true, if_false, Nat.reduceLT, Nat.reduceEqDiff, Nat.zero_add, Nat.reduceAdd, List.getElem?_toArray, List.getElem?_cons_zero, List.getElem?_cons_succ, List.length_cons, List.length_nil, Option.map_some, reduceCtorEq, Nat.succ_ne_self, Nat.one_ne_zero, Nat.zero_ne_one, Option.some_beq_some, beq_self_eq_true, Bool.not_true, Bool.not_false, Bool.true_beq, Bool.false_beq]) ⟨rfl, by omega, fun k h => (b3 k h).trans (a3 k h), ?_⟩
  rw [hx b4 (by omega) (by omega), b6, a6]
end
end Go.Proofs.YtmchghdmejbblaaGreatDoor
