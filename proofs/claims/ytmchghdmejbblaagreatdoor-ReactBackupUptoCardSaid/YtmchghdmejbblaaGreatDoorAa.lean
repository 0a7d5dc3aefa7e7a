/- The evaluator's operations and the model's: rows and maps made, '==', arithmetic, strings walked. -/
import Derived.Test.YtmchghdmejbblaaGreatDoorA9
import Derived.ChangeKeysEq
set_option linter.unusedSimpArgs false
set_option linter.unusedVariables false
namespace Go.Ab

theorem wrap_small (n : Nat) (h : n ≤ 16777216) : IntKind.i64.wrap (n : Int) = n := by rw [IntKind.wrap_i64]; omega

theorem room_small (b n : Nat) (h1 : b ≤ 65536) (h2 : n ≤ 16777216) : ¬ ((b : Int) * (n : Int) > 2 ^ 48) := by
  have h := Int.ofNat_le.2 (Nat.mul_le_mul h1 h2)
  rw [Int.natCast_mul] at h
  have : ((65536 * 16777216 : Nat) : Int) = 1099511627776 := rfl
  have : (2 : Int) ^ 48 = 281474976710656 := rfl
  omega

theorem makeSlice_ok {P : Program} {T : Tb} (hP : TbOk P T) {ok : Nat → Prop} {C : Cx} {σ σ' : St} {w : World} (hR : R ok C σ w) (hok : ∀ b, w.heap.size ≤ b → ok b) {t : TypeId} {l c a : AV} {y z : Value}
    (h : makeSliceA T t l c σ = some (a, σ')) (hy : VR C l y) (hz : VR C c z) :
    ∃ C' w' r, (Instr.makeSlice t y z).run P w = .ok r w' ∧ Nx ok C σ w C' σ' w' ∧ VR C' a r := by
  unfold makeSliceA at h
  split at h
  · rename_i elem ln cn hu hl hc
    have hu := und_ok hP hu
    obtain ⟨kl, rfl⟩ := natOf_ok hl hy
    obtain ⟨kc, rfl⟩ := natOf_ok hc hz
    split at h
    · rename_i n b zz hn hb hzero
      split at h
      · rename_i hcond
        obtain ⟨e1, e2, e3, e4, e5⟩ := hcond
        split at h
        · rename_i id σ1 hnew
          cases h
          obtain ⟨zv, hzr, hzo⟩ := run_zero hP hzero w
          obtain ⟨_, hzc, _⟩ := ofV_ok (C := C) hzo
          obtain ⟨j, hj, hjb⟩ := run_bytes hP hb w
          have hzs : zv.cells.size = n := by have := hzc.length; simp only [Array.length_toList] at this; omega
          have hrep := range_repeat zv.cells n hzs e2 cn
          have hwl : IntKind.i64.wrap (ln : Int) = ln := wrap_small ln (Nat.le_trans e3 e4)
          have hwc : IntKind.i64.wrap (cn : Int) = cn := wrap_small cn e4
          have hbc := room_small b cn e5 e4
          let row : List Value := repeatV zv.cells.toList cn
          have hrl : row.length = cn * n := by show (repeatV zv.cells.toList cn).length = _; rw [repeatV_length, Array.length_toList, hzs]
          have hvr : VRs C (repeatA zz.cells cn) row := VRs.repeat hzc cn
          have hal : (repeatA zz.cells cn).length = cn * n := by rw [repeatA_length, e1]
          obtain ⟨C', hr, hx, hcur, hmu, hbs⟩ := newArr_ok (P := P) hR hok hnew (vs := row.toArray) (by
            show VRs C _ (row.take _)
            rw [hal, ← hrl, List.take_length]; exact hvr) elem
          refine ⟨C', _, .slice (some ⟨w.heap.size, 0, none⟩) ln cn, ?_, hx, ?_⟩
          · have hcmp : ¬ ((IntKind.i64.wrap (cn : Int) < 0 || ((b : Int) * IntKind.i64.wrap (cn : Int) > 2 ^ 48)) || IntKind.i64.wrap (ln : Int) < 0 || IntKind.i64.wrap (ln : Int) > IntKind.i64.wrap (cn : Int)) = true := by
              rw [hwl, hwc]
              simp only [Bool.or_eq_true, decide_eq_true_eq, not_or]
              exact ⟨⟨⟨by omega, hbc⟩, by omega⟩, by omega⟩
            have hrow : Array.map (fun x => zv.cells[x % zv.cells.size]!) (Array.range (cn * n)) = row.toArray := by
              apply Array.ext'
              simp only [Array.toList_map, Array.toList_range]
              exact hrep
            simp only [Instr.makeSlice, asInt, asIntOf, Sem.run_bind, Sem.run_pure, run_underlying hu, Result.andThen_ok, hj, hjb]
            rw [if_neg hcmp]
            rw [hwl, hwc]
            simp only [run_askRoom, Int.toNat_natCast, run_size hP hn, Result.andThen_ok, Sem.run_bind]
            by_cases h0 : cn * n = 0
            · rw [if_pos h0]
              simp only [Sem.run_bind, Sem.run_pure, Result.andThen_ok]
              have hr0 : row.toArray = #[] := by rw [← hrow, h0]; simp
              have e : ∀ f : Nat → Value, Array.map f (Array.range (cn * n)) = #[] := fun f => by rw [h0]; simp
              rw [e, ← hr0]
              simp only [hr, Result.andThen_ok]
            · rw [if_neg h0]
              simp only [Sem.run_bind, hzr, Sem.run_pure, Result.andThen_ok]
              rw [hrow]
              simp only [hr, Result.andThen_ok]
          · refine ⟨_, cn, rfl, ⟨0, hcur, Nat.le_refl _⟩, Nat.le_refl _, fun _ => rfl, fun _ => ⟨0, by rw [hmu], fun _ => rfl, ?_⟩⟩
            rw [hmu]
            simp only [List.size_toArray] at hbs
            omega
        · cases h
      · simp [bad] at h
    · simp [bad] at h
  · simp [bad] at h

theorem makeMap_ok {P : Program} {ok : Nat → Prop} {C : Cx} {σ σ' : St} {w : World} (hR : R ok C σ w) (hok : ∀ b, w.heap.size ≤ b → ok b) {t : TypeId} {id : Nat} (h : σ.new (.mp []) = some (id, σ')) :
    ∃ C' w' r, (Instr.makeMap t none).run P w = .ok r w' ∧ Nx ok C σ w C' σ' w' ∧ VR C' (.mp id) r := by
  obtain ⟨_, hx⟩ := hR.new (.map #[] 0) 0 h hok rfl (fun C' e => ⟨#[], heap_push_new w _, rfl, fun i k v hi => by simp at hi⟩) (Nat.zero_le _)
  refine ⟨_, _, .map (some w.heap.size), ?_, hx, ⟨_, rfl, ⟨0, by simp [Cx.upd], Nat.le_refl _⟩, fun _ => by simp [Cx.upd]⟩⟩
  simp only [Instr.makeMap, Sem.run_bind, run_newObj_alloc, Result.andThen_ok, Sem.run_pure]

/-! ### '==' -/
set_option maxHeartbeats 2000000 in
theorem eqLeaf_ok {P : Program} {T : Tb} (hP : TbOk P T) {C : Cx} {w : World} {t : TypeId} {x y : AV} {u v : Value} {b : Bool} (h : eqLeaf (und T t) x y = some b) (hx : VR C x u) (hy : VR C y v) (D : Nat) :
    (Op.equalIn (D + 1) t u v).run P w = .ok b w := by
  rw [Op.equalIn]
  unfold eqLeaf at h
  split at h
  · rename_i hu
    have hu := und_ok hP hu
    split at h
    · cases h; cases hx; cases hy
      simp only [Sem.run_bind, run_underlying hu, Result.andThen_ok, Sem.run_pure]
    · simp [bad] at h
  · rename_i e hu
    have hu := und_ok hP hu
    split at h
    · split at h
      · rename_i hk
        have hk := of_decide_eq_true hk
        cases h; cases hx; cases hy
        simp only [Sem.run_bind, run_underlying hu, Result.andThen_ok, hk, if_true, Sem.run_pure]
      · simp [bad] at h
    · simp [bad] at h
  · rename_i hu
    have hu := und_ok hP hu
    split at h
    · cases h; cases hx; cases hy
      simp only [Sem.run_bind, run_underlying hu, Result.andThen_ok, Sem.run_pure, beq_toListBytes]
    · simp [bad] at h
  all_goals first
    | (simp [bad] at h; done)
    | (rename_i hu
       have hu := und_ok hP hu
       split at h
       all_goals first
         | (simp [bad] at h; done)
         | (cases h; cases hx; cases hy
            simp only [Sem.run_bind, run_underlying hu, Result.andThen_ok, Sem.run_pure, Option.isNone_none]; done)
         | (cases h; cases hx; obtain ⟨a, rfl, _⟩ := hy
            simp only [Sem.run_bind, run_underlying hu, Result.andThen_ok, Sem.run_pure, Option.isNone_some]; done)
         | (cases h; cases hx; obtain ⟨a, rfl⟩ := hy
            simp only [Sem.run_bind, run_underlying hu, Result.andThen_ok, Sem.run_pure, Option.isNone_some]; done)
         | (cases h; cases hx; obtain ⟨a, c, rfl, _⟩ := hy
            simp only [Sem.run_bind, run_underlying hu, Result.andThen_ok, Sem.run_pure, Option.isNone_some]; done)
         | (cases h; cases hy; obtain ⟨a, rfl, _⟩ := hx
            simp only [Sem.run_bind, run_underlying hu, Result.andThen_ok, Sem.run_pure]; done)
         | (cases h; cases hy; obtain ⟨a, rfl⟩ := hx
            simp only [Sem.run_bind, run_underlying hu, Result.andThen_ok, Sem.run_pure]; done)
         | (cases h; cases hy; obtain ⟨a, c, rfl, _⟩ := hx
            simp only [Sem.run_bind, run_underlying hu, Result.andThen_ok, Sem.run_pure]; done))

theorem eqFields_ok {P : Program} {T : Tb} (hP : TbOk P T) {C : Cx} {eq : TypeId → AV → AV → Option Bool} {D : Nat} {w : World} (heq : ∀ (t : TypeId) (x y : AV) (u v : Value) (b : Bool), eq t x y = some b → VR C x u → VR C y v → (Op.equalIn D t u v).run P w = .ok b w)
    {xs ys : List AV} {us vs : Array Value} (hx : VRs C xs us.toList) (hy : VRs C ys vs.toList) : ∀ {l : List Field} {b : Bool}, eqFieldsA T eq xs ys l = some b → (Op.eqFields D us vs l).run P w = .ok b w
  | [], b, h => by
    simp only [eqFieldsA, Option.some.injEq] at h
    subst h
    rfl
  | f :: fs, b, h => by
    simp only [eqFieldsA] at h
    rw [Op.eqFields]
    split at h
    · rename_i hn
      have hn := of_decide_eq_false hn
      rw [if_neg hn]
      exact eqFields_ok hP heq hx hy h
    · rename_i hn
      have hn := of_decide_eq_true hn
      rw [if_pos hn]
      split at h
      · rename_i a c ha hc
        obtain ⟨z1, r1, v1⟩ := partV_ok hP ha hx w
        obtain ⟨z2, r2, v2⟩ := partV_ok hP hc hy w
        split at h
        · rename_i he
          simp only [Sem.run_bind, r1, r2, Result.andThen_ok, heq _ _ _ _ _ _ he v1 v2, Bool.not_true, Bool.false_eq_true, if_false]
          exact eqFields_ok hP heq hx hy h
        · rename_i he
          cases h
          simp only [Sem.run_bind, r1, r2, Result.andThen_ok, heq _ _ _ _ _ _ he v1 v2, Bool.not_false, if_true, Sem.run_pure]
        · cases h
      · cases h

theorem eqElems_ok {P : Program} {T : Tb} (hP : TbOk P T) {C : Cx} {eq : TypeId → AV → AV → Option Bool} {D n : Nat} {elem : TypeId} {w : World} (heq : ∀ (x y : AV) (u v : Value) (b : Bool), eq elem x y = some b → VR C x u → VR C y v → (Op.equalIn D elem u v).run P w = .ok b w)
    {xs ys : List AV} {us vs : Array Value} (hx : VRs C xs us.toList) (hy : VRs C ys vs.toList) : ∀ {l : List Nat} {b : Bool}, eqElemsA T eq elem n xs ys l = some b → (Op.eqItems D elem n us vs l).run P w = .ok b w
  | [], b, h => by
    simp only [eqElemsA, Option.some.injEq] at h
    subst h
    rfl
  | i :: l, b, h => by
    simp only [eqElemsA] at h
    rw [Op.eqItems]
    split at h
    · rename_i a c ha hc
      obtain ⟨z1, r1, v1⟩ := partV_ok hP ha hx w
      obtain ⟨z2, r2, v2⟩ := partV_ok hP hc hy w
      split at h
      · rename_i he
        simp only [Sem.run_bind, r1, r2, Result.andThen_ok, heq _ _ _ _ _ he v1 v2, Bool.not_true, Bool.false_eq_true, if_false]
        exact eqElems_ok hP heq hx hy h
      · rename_i he
        cases h
        simp only [Sem.run_bind, r1, r2, Result.andThen_ok, heq _ _ _ _ _ he v1 v2, Bool.not_false, if_true, Sem.run_pure]
      · cases h
    · cases h

theorem stood_ok {P : Program} {T : Tb} (hP : TbOk P T) {t : TypeId} (h : stoodA T t = false) : P.stoodInHeld t = false := by
  unfold stoodA at h
  cases hi : T.get t with
  | none => simp [hi] at h
  | some i =>
    obtain ⟨j, _, rfl⟩ := TbOk.info hP hi
    simpa [hi] using h
theorem eqg_ok {P : Program} {T : Tb} (hP : TbOk P T) {t : TypeId} (h : eqgA T t = false) : P.eqGuardType P.depth t = false := by
  unfold eqgA at h
  cases hi : T.get t with
  | none => simp [hi] at h
  | some i =>
    obtain ⟨j, _, rfl⟩ := TbOk.info hP hi
    simpa [hi] using h

theorem eq_ok {P : Program} {T : Tb} (hP : TbOk P T) {C : Cx} {w : World} : ∀ (d D : Nat), d ≤ D → ∀ (t : TypeId) (x y : AV) (u v : Value) (b : Bool), eqA T d t x y = some b → VR C x u → VR C y v → (Op.equalIn D t u v).run P w = .ok b w
  | 0, _, _, _, _, _, _, _, _, h, _, _ => by simp [eqA, bad] at h
  | d + 1, 0, hD, _, _, _, _, _, _, _, _, _ => absurd hD (by omega)
  | d + 1, D + 1, hD, t, x, y, u, v, b, h, hx, hy => by
    unfold eqA at h
    split at h
    · split at h
      · obtain ⟨us, rfl, hx⟩ := hx
        obtain ⟨vs, rfl, hy⟩ := hy
        unfold eqStruct at h
        split at h
        · rename_i stood fields hu
          have hu := und_ok hP hu
          split at h
          · rename_i hs
            have hf : P.fieldsOf t = fields := by simp [Program.fieldsOf, hu]
            rw [run_equalIn_struct w D t us vs (by rw [hf]; exact hu) (stood_ok hP hs), hf]
            exact eqFields_ok hP (fun t x y u v b h hx hy => eq_ok hP d D (by omega) t x y u v b h hx hy) hx hy h
          · simp [bad] at h
        · rename_i len elem hu
          have hu := und_ok hP hu
          split at h
          · rename_i n hn
            obtain ⟨i, hi, rfl⟩ := size_ok hP hn
            have hc : P.cellsOf elem = i.size := by simp [Program.cellsOf, hi]
            rw [run_equalIn_array w D us vs hu hi, hc]
            exact eqElems_ok hP (fun x y u v b h hx hy => eq_ok hP d D (by omega) elem x y u v b h hx hy) hx hy h
          · cases h
        · simp [bad] at h
      · simp [bad] at h
    · exact eqLeaf_ok hP h hx hy D

/-! ### Arithmetic -/
theorem sameKind_ok {k k' : IntKind} {v a : AV} (h : sameKind k k' v = some a) : k = k' ∧ v = a := by
  unfold sameKind at h
  split at h
  · rename_i hd
    cases h
    exact ⟨of_decide_eq_true hd, rfl⟩
  · simp [bad] at h
theorem run_eqGuard_int {P : Program} {w : World} (op : BinOp) (t : TypeId) (x y : Operand) (k k' : IntKind) (a b : Int) : (eqGuard op t x y (.int k a) (.int k' b)).run P w = .ok () w := by
  cases op <;> simp [eqGuard]
theorem run_eqGuard_str {P : Program} {w : World} (op : BinOp) (t : TypeId) (x y : Operand) (a b : ByteArray) : (eqGuard op t x y (.string a) (.string b)).run P w = .ok () w := by
  cases op <;> simp [eqGuard]
theorem run_eqGuard_other {P : Program} {w : World} (op : BinOp) (t : TypeId) (x y : Operand) (u v : Value) (h : ∀ a c, u = .agg a → v = .agg c → P.eqGuardType P.depth t = false) (h' : u ≠ .nilIface) : (eqGuard op t x y u v).run P w = .ok () w := by
  cases u with
  | agg a => cases v with
    | agg c => exact run_eqGuard_agg w op t x y a c (h a c rfl rfl)
    | _ => cases op <;> simp [eqGuard]
  | nilIface => exact absurd rfl h'
  | _ => cases op <;> simp [eqGuard]

/-- A value that is no number and no string. -/
def AV.odd : AV → Bool
  | .int _ _ | .str _ => false
  | _ => true
theorem VR.odd {C : Cx} {a : AV} {v : Value} (h : VR C a v) (ho : a.odd = true) : (∀ k n, v ≠ .int k n) ∧ (∀ s, v ≠ .string s) ∧ (∀ k n, v ≠ .float k n) ∧ (∀ k n m, v ≠ .complex k n m) ∧ v ≠ .nilIface := by
  cases a <;> simp only [AV.odd] at ho <;> try cases ho
  all_goals simp only [VR] at h
  case bool => subst h; simp
  case nilp => subst h; simp
  case ptr => obtain ⟨a, rfl, _⟩ := h; simp
  case nils => subst h; simp
  case sl => obtain ⟨a, c, rfl, _⟩ := h; simp
  case nilm => subst h; simp
  case mp => obtain ⟨b, rfl, _⟩ := h; simp
  case nilf => subst h; simp
  case fn => obtain ⟨x, y, rfl, _⟩ := h; simp
  case yld => obtain ⟨b, rfl, _⟩ := h; simp
  case agg => obtain ⟨x, rfl, h⟩ := h; simp
  case tup => obtain ⟨x, rfl, h⟩ := h; simp
  case rsl => obtain ⟨a, c, rfl, _⟩ := h; simp
  case rptr => obtain ⟨a, rfl, _⟩ := h; simp
  case esl => obtain ⟨a, rfl⟩ := h; simp

theorem intBin_ok {P : Program} {w : World} {op : BinOp} {k k' : IntKind} {a b : Int} {r : AV} (h : intBin op k a k' b = some r) (t : TypeId) :
    ∃ v, (binOp op t (.int k a) (.int k' b)).run P w = .ok v w ∧ ∀ C, VR C r v := by
  cases op <;> simp only [intBin, bAdd, bSub, bMul, bQuo, bRem, bAnd, bOr, bShl, bShr, bEql, bNeq, bLss, bLeq, bGtr, bGeq, bBad] at h
  case quo =>
    split at h
    · rename_i hb
      obtain ⟨rfl, rfl⟩ := sameKind_ok h
      exact ⟨_, by (simp only [binOp, Op.intDiv, of_decide_eq_false hb, ne_eq, not_true, if_false, Sem.run_pure]; exact rfl), fun C => by rw [mkInt_eq]; rfl⟩
    · simp [bad] at h
  case rem =>
    split at h
    · rename_i hb
      obtain ⟨rfl, rfl⟩ := sameKind_ok h
      exact ⟨_, by (simp only [binOp, Op.intDiv, of_decide_eq_false hb, ne_eq, not_true, if_false, Sem.run_pure]; exact rfl), fun C => by rw [mkInt_eq]; rfl⟩
    · simp [bad] at h
  case shl =>
    split at h
    · rename_i hb
      cases h
      exact ⟨_, by (simp only [binOp, Op.shift, of_decide_eq_false hb, if_false, Sem.run_pure]; exact rfl), fun C => by rw [mkInt_eq]; rfl⟩
    · simp [bad] at h
  case shr =>
    split at h
    · rename_i hb
      cases h
      exact ⟨_, by (simp only [binOp, Op.shift, of_decide_eq_false hb, if_false, Sem.run_pure]; exact rfl), fun C => by rw [mkInt_eq]; rfl⟩
    · simp [bad] at h
  case add => obtain ⟨rfl, rfl⟩ := sameKind_ok h; exact ⟨_, by (simp only [binOp, Op.intArith, ne_eq, not_true, if_false, Sem.run_pure]; exact rfl), fun C => by rw [mkInt_eq]; rfl⟩
  case sub => obtain ⟨rfl, rfl⟩ := sameKind_ok h; exact ⟨_, by (simp only [binOp, Op.intArith, ne_eq, not_true, if_false, Sem.run_pure]; exact rfl), fun C => by rw [mkInt_eq]; rfl⟩
  case mul => obtain ⟨rfl, rfl⟩ := sameKind_ok h; exact ⟨_, by (simp only [binOp, Op.intArith, ne_eq, not_true, if_false, Sem.run_pure]; exact rfl), fun C => by rw [mkInt_eq]; rfl⟩
  case and => obtain ⟨rfl, rfl⟩ := sameKind_ok h; exact ⟨_, by (simp only [binOp, Op.intBits, ne_eq, not_true, if_false, Sem.run_pure]; exact rfl), fun C => by rw [mkInt_eq]; rfl⟩
  case or => obtain ⟨rfl, rfl⟩ := sameKind_ok h; exact ⟨_, by (simp only [binOp, Op.intBits, ne_eq, not_true, if_false, Sem.run_pure]; exact rfl), fun C => by rw [mkInt_eq]; rfl⟩
  case eql => obtain ⟨rfl, rfl⟩ := sameKind_ok h; exact ⟨_, by (simp only [binOp, Op.intCmp, ne_eq, not_true, if_false, Sem.run_pure]), fun C => rfl⟩
  case neq => obtain ⟨rfl, rfl⟩ := sameKind_ok h; exact ⟨_, by (simp only [binOp, Op.intCmp, ne_eq, not_true, if_false, Sem.run_pure]), fun C => rfl⟩
  case lss => obtain ⟨rfl, rfl⟩ := sameKind_ok h; exact ⟨_, by (simp only [binOp, Op.intCmp, ne_eq, not_true, if_false, Sem.run_pure]), fun C => rfl⟩
  case leq => obtain ⟨rfl, rfl⟩ := sameKind_ok h; exact ⟨_, by (simp only [binOp, Op.intCmp, ne_eq, not_true, if_false, Sem.run_pure]), fun C => rfl⟩
  case gtr => obtain ⟨rfl, rfl⟩ := sameKind_ok h; exact ⟨_, by (simp only [binOp, Op.intCmp, ne_eq, not_true, if_false, Sem.run_pure]), fun C => rfl⟩
  case geq => obtain ⟨rfl, rfl⟩ := sameKind_ok h; exact ⟨_, by (simp only [binOp, Op.intCmp, ne_eq, not_true, if_false, Sem.run_pure]), fun C => rfl⟩
  all_goals simp [bad] at h

theorem strBin_ok {P : Program} {w : World} {op : BinOp} {a b : ByteArray} {r : AV} (h : strBin op a b = some r) (t : TypeId) :
    ∃ v, (binOp op t (.string a) (.string b)).run P w = .ok v w ∧ ∀ C, VR C r v := by
  cases op <;> simp only [strBin] at h
  case add =>
    split at h
    · rename_i hb
      cases h
      have hl := Nat.le_of_ble_eq_true hb
      have : ¬ (((a.size + b.size : Nat) : Int) > IntKind.i64.max) := by
        have : IntKind.i64.max = 9223372036854775807 := rfl
        omega
      exact ⟨.string (a ++ b), by simp only [binOp, Op.stringOp]; rw [if_neg this]; rfl, fun C => rfl⟩
    · simp [bad] at h
  case eql => cases h; exact ⟨_, by simp only [binOp, Op.stringOp, Sem.run_pure], fun C => rfl⟩
  case neq => cases h; exact ⟨_, by simp only [binOp, Op.stringOp, Sem.run_pure], fun C => rfl⟩
  all_goals simp [bad] at h

theorem bin_ok {P : Program} {T : Tb} (hP : TbOk P T) {C : Cx} {w : World} {op : BinOp} {t : TypeId} {x y r : AV} {u v : Value} (h : binA T op t x y = some r) (hx : VR C x u) (hy : VR C y v) (ox oy : Operand) :
    ∃ z, (eqGuard op t ox oy u v).run P w = .ok () w ∧ (binOp op t u v).run P w = .ok z w ∧ VR C r z := by
  have other : x.odd = true → otherBin T op t x y = some r → ∃ z, (eqGuard op t ox oy u v).run P w = .ok () w ∧ (binOp op t u v).run P w = .ok z w ∧ VR C r z := by
    intro ho h
    obtain ⟨n1, n2, n3, n4, n5⟩ := hx.odd ho
    unfold otherBin at h
    split at h
    · simp [bad] at h
    · rename_i hg
      have hg := eqg_ok hP hg
      split at h
      · cases hb : eqA T 5 t x y with
        | none => simp [hb] at h
        | some b =>
          simp only [hb, Option.map_some, Option.some.injEq] at h
          subst h
          have h1 : (Op.equal t u v).run P w = .ok b w := eq_ok (w := w) hP 5 10000 (by omega) t x y u v b hb hx hy
          refine ⟨.bool b, run_eqGuard_other _ _ _ _ _ _ (fun _ _ _ _ => hg) n5, ?_, rfl⟩
          have e : binOp .eql t u v = (do pure (.bool (← Op.equal t u v))) := by
            cases u <;> first | rfl | exact absurd rfl (n1 _ _) | exact absurd rfl (n2 _) | exact absurd rfl (n3 _ _) | exact absurd rfl (n4 _ _ _)
          rw [e]
          simp only [Sem.run_bind, h1, Result.andThen_ok, Sem.run_pure]
      · cases hb : eqA T 5 t x y with
        | none => simp [hb] at h
        | some b =>
          simp only [hb, Option.map_some, Option.some.injEq] at h
          subst h
          have h1 : (Op.equal t u v).run P w = .ok b w := eq_ok (w := w) hP 5 10000 (by omega) t x y u v b hb hx hy
          refine ⟨.bool !b, run_eqGuard_other _ _ _ _ _ _ (fun _ _ _ _ => hg) n5, ?_, rfl⟩
          have e : binOp .neq t u v = (do pure (.bool (!(← Op.equal t u v)))) := by
            cases u <;> first | rfl | exact absurd rfl (n1 _ _) | exact absurd rfl (n2 _) | exact absurd rfl (n3 _ _) | exact absurd rfl (n4 _ _ _)
          rw [e]
          simp only [Sem.run_bind, h1, Result.andThen_ok, Sem.run_pure]
      · simp [bad] at h
  unfold binA at h
  split at h
  · split at h
    · cases hx; cases hy
      obtain ⟨z, h1, h2⟩ := intBin_ok (P := P) (w := w) h t
      exact ⟨z, run_eqGuard_int _ _ _ _ _ _ _ _, h1, h2 C⟩
    · simp [bad] at h
  · split at h
    · cases hx; cases hy
      obtain ⟨z, h1, h2⟩ := strBin_ok (P := P) (w := w) h t
      exact ⟨z, run_eqGuard_str _ _ _ _ _ _, h1, h2 C⟩
    · simp [bad] at h
  · rename_i h1 h2
    refine other ?_ h
    cases x <;> first | rfl | exact absurd rfl (h1 _ _) | exact absurd rfl (h2 _)

theorem conv_ok {P : Program} {T : Tb} (hP : TbOk P T) {C : Cx} {w : World} {s d : TypeId} {x r : AV} {u : Value} (h : convA T s d x = some r) (hx : VR C x u) :
    ∃ z, (convert s d u).run P w = .ok z w ∧ VR C r z := by
  unfold convA at h
  split at h
  · rename_i e k k' n hs hd
    cases h; cases hx
    have hs := und_ok hP hs
    have hd := und_ok hP hd
    refine ⟨_, ?_, rfl⟩
    simp only [convert, Sem.run_bind, run_underlying hs, run_underlying hd, Result.andThen_ok]
    cases e <;> simp [Conv.intToInt]
  · rename_i e str hs hd
    cases h; cases hx
    have hs := und_ok hP hs
    have hd := und_ok hP hd
    refine ⟨_, ?_, rfl⟩
    simp only [convert, Sem.run_bind, run_underlying hs, run_underlying hd, Result.andThen_ok]
    cases e <;> simp
  · simp [bad] at h

/-! ### Strings walked -/
theorem range_ok {P : Program} {T : Tb} (hP : TbOk P T) {ok : Nat → Prop} {C : Cx} {σ σ' : St} {w : World} (hR : R ok C σ w) (hok : ∀ b, w.heap.size ≤ b → ok b) {t : TypeId} {x : AV} {n : AN} {y : Value} (h : opRange T t σ x = some (n, σ')) (hy : VR C x y) :
    ∃ C' w' a r, n = .val a ∧ (Instr.range t y).run P w = .ok r w' ∧ Nx ok C σ w C' σ' w' ∧ VR C' a r := by
  unfold opRange at h
  split at h
  · rename_i s
    split at h
    · rename_i hu
      have hu := und_ok hP hu
      split at h
      · rename_i id σ1 hn
        cases h; cases hy
        obtain ⟨_, hx⟩ := hR.new (.stringIter s 0) 0 hn hok rfl (fun C' e => heap_push_new w _) (Nat.zero_le _)
        refine ⟨_, _, _, .pointer (some ⟨w.heap.size, 0, none⟩), rfl, ?_, hx, ⟨_, rfl, ⟨0, by simp [Cx.upd], Nat.le_refl _⟩, fun _ => by simp [Cx.upd]⟩⟩
        simp only [Instr.range, Sem.run_bind, run_underlying hu, Result.andThen_ok, Sem.run_pure, run_newObj_alloc]
      · cases h
    · simp [bad] at h
  · simp [bad] at h

theorem next_ok {P : Program} {ok : Nat → Prop} {C : Cx} {σ σ' : St} {w : World} (hR : R ok C σ w) {t : TypeId} {x : AV} {n : AN} {y : Value} (h : opNext σ x = some (n, σ')) (hy : VR C x y) :
    ∃ w' a r, n = .val a ∧ (Instr.next y true t).run P w = .ok r w' ∧ Nx ok C σ w C σ' w' ∧ VR C a r := by
  unfold opNext at h
  split at h
  · rename_i id
    split at h
    · rename_i s pos hg
      obtain ⟨a, rfl, hp, ha⟩ := hy
      obtain ⟨cv, hc, _⟩ := hp
      obtain ⟨h1, h2, _⟩ := hR.obj id _ cv hg hc
      have : cv = 0 := h1
      subst this
      rw [ha hc]
      have hh : w.heap[C.μ id]? = some (.stringIter s pos) := h2
      have hget : (getObj (C.μ id)).run P w = .ok (.stringIter s pos) w := by simp [getObj, Sem.run, hh]
      split at h
      · rename_i hlt
        cases h
        have hlt : pos < s.size := by simpa using hlt
        have hsz : C.μ id < w.heap.size := (Array.getElem?_eq_some_iff.1 hh).1
        have hset : (setObj (C.μ id) (.stringIter s (pos + (Utf8.decode s pos).2))).run P w = .ok () (w.putObj (C.μ id) (.stringIter s (pos + (Utf8.decode s pos).2))) := by simp [setObj, Sem.run, hh, World.putObj]
        refine ⟨_, _, .tuple #[.bool true, goInt pos, .int .i32 (Utf8.decode s pos).1], rfl, ?_, hR.put hg hc rfl (World.putObj_heap_same hsz) rfl rfl rfl World.putObj_size (fun k hk => World.putObj_heap_other hk) ?_, ⟨_, rfl, VRs.cons rfl (VRs.cons rfl (VRs.one rfl))⟩⟩
        · simp only [Instr.next, Sem.run_bind, Sem.run_pure, Result.andThen_ok, hget]
          rw [if_pos hlt]
          simp only [Sem.run_bind, hset, Result.andThen_ok, Sem.run_pure]
        · have hb := hR.bs (C.μ id)
          unfold bsize at hb
          rw [hh] at hb
          simp only at hb
          omega
      · rename_i hlt
        cases h
        have hlt : ¬ pos < s.size := by
          intro hl
          have : Nat.blt pos s.size = true := by simpa using hl
          rw [this] at hlt; cases hlt
        refine ⟨_, _, .tuple #[.bool false], rfl, ?_, Nx.refl hR, ⟨_, rfl, VRs.one rfl⟩⟩
        simp only [Instr.next, Sem.run_bind, Sem.run_pure, Result.andThen_ok, hget]
        rw [if_neg hlt]
        rfl
    · simp [bad] at h
  · simp [bad] at h

theorem extract_ok {P : Program} {C : Cx} {σ σ' : St} {w : World} {x : AV} {i : Nat} {n : AN} {y : Value} (h : opExtract i σ x = some (n, σ')) (hy : VR C x y) :
    σ' = σ ∧ ∃ a r, n = .val a ∧ (Instr.extract y i).run P w = .ok r w ∧ VR C a r := by
  unfold opExtract at h
  split at h
  · rename_i vs
    obtain ⟨x, rfl, hv⟩ := hy
    unfold val1 at h
    split at h
    · rename_i a ha
      cases h
      obtain ⟨v, h1, h2⟩ := hv.get ha
      refine ⟨rfl, a, v, rfl, ?_, h2⟩
      have : x[i]? = some v := by simpa using h1
      simp [Instr.extract, this]
    · cases h
  · simp [bad] at h

theorem newVar_ok {P : Program} {ok : Nat → Prop} {C : Cx} {σ σ' : St} {w : World} (hR : R ok C σ w) (hok : ∀ b, w.heap.size ≤ b → ok b) {v : AV} {y : Value} {n : AN} (h : opNew v.cells σ = some (n, σ')) (hy : VRs C v.cells y.cells.toList) (e : TypeId) :
    ∃ C' w' a r, n = .val a ∧ (newVar e y).run P w = .ok r w' ∧ Nx ok C σ w C' σ' w' ∧ VR C' a (.pointer (some r)) := by
  unfold opNew at h
  split at h
  · rename_i id σ1 hn
    cases h
    have hl := hy.length
    simp only [Array.length_toList] at hl
    obtain ⟨C', hr, hx, hcur, hmu, _⟩ := newArr_ok (P := P) hR hok hn (vs := y.cells) (by rw [List.take_of_length_le (by simp; omega)]; exact hy) e
    exact ⟨C', _, _, _, rfl, hr, hx, ⟨_, rfl, ⟨0, hcur, Nat.le_refl _⟩, fun _ => by rw [hmu]⟩⟩
  · cases h
end Go.Ab
