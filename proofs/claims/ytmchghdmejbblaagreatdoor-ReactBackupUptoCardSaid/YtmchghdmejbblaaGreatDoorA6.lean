/- The evaluator's operations and the model's: fields, indexes, slices, append, copy, clear, len. -/
import Derived.Test.YtmchghdmejbblaaGreatDoorA5
set_option linter.unusedSimpArgs false
set_option linter.unusedVariables false
namespace Go.Ab

section
variable {P : Program} {T : Tb} (hP : TbOk P T) {C : Cx}
include hP

theorem fieldAddr_ok {s : TypeId} {v a : AV} {f : Nat} {y : Value} (h : fieldAddrA T s v f = some a) (hy : VR C v y) (w : World) :
    ∃ z, (Instr.fieldAt s y f).run P w = .ok z w ∧ VR C a z := by
  unfold fieldAddrA at h
  split at h
  · rename_i id ver off
    split at h
    · rename_i fields hu
      have hu := und_ok hP hu
      unfold fieldAt at h
      split at h
      · rename_i fl hf
        split at h
        · rename_i n hn
          split at h
          · rename_i hb
            have h0 : 0 < n := by simpa using hb
            rw [mkPtr_eq] at h
            cases h
            obtain ⟨ad, rfl, hp, ha⟩ := hy
            refine ⟨.pointer (some (ad.add fl.offset)), ?_, ⟨_, rfl, hp, fun hc => ?_⟩⟩
            · simp only [Instr.fieldAt, Sem.run_bind, run_underlying hu, Result.andThen_ok, hf, Instr.sureAddr, Sem.run_pure, fieldPlace, run_size hP hn]
              rw [if_neg (by omega)]
              rfl
            · rw [ha hc, addr_add]
          · simp [bad] at h
        · cases h
      · simp [bad] at h
    · simp [bad] at h
  · rename_i id off
    split at h
    · rename_i fields hu
      have hu := und_ok hP hu
      unfold fieldAtR at h
      split at h
      · rename_i fl hf
        split at h
        · rename_i n hn
          split at h
          · rename_i hb
            have h0 : 0 < n := by simpa using hb
            cases h
            obtain ⟨ad, rfl, ha⟩ := hy
            refine ⟨.pointer (some ((ad.add off).add fl.offset)), ?_, ⟨ad, by rw [add_add], ha⟩⟩
            simp only [Instr.fieldAt, Sem.run_bind, run_underlying hu, Result.andThen_ok, hf, Instr.sureAddr, Sem.run_pure, fieldPlace, run_size hP hn]
            rw [if_neg (by omega)]
            rfl
          · simp [bad] at h
        · cases h
      · simp [bad] at h
    · simp [bad] at h
  · simp [bad] at h

theorem partV_ok {t : TypeId} {cells : List AV} {off : Nat} {a : AV} (h : loadCells cells off (sizeA T t) (isAggA T t) = some a) {c : Array Value} (hv : VRs C cells c.toList) (w : World) :
    ∃ z, (part t c off).run P w = .ok z w ∧ VR C a z := by
  unfold loadCells at h
  split at h
  · rename_i hagg
    split at h
    · rename_i n hn
      unfold aggOf at h
      split at h
      · rename_i cs hr
        cases h
        obtain ⟨hl, rfl⟩ := rowAt_ok hr
        have hcl := hv.length
        obtain ⟨h1, h2⟩ := VRs.row (c := c.toList) (by rw [List.take_of_length_le (by omega)]; exact hv) hl
        refine ⟨.agg (c.extract off (off + n)), ?_, ⟨_, rfl, ?_⟩⟩
        · simp only [part, Sem.run_bind, run_agg hP hagg, Result.andThen_ok, if_true, run_size hP hn, Sem.run_pure]
        · rw [Array.toList_extract, List.extract_eq_take_drop]
          simpa using h1
      · cases h
    · cases h
  · rename_i hagg
    obtain ⟨v, hvi, hva⟩ := hv.get h
    refine ⟨v, ?_, hva⟩
    have hc : c[off]? = some v := by simpa using hvi
    simp only [part, Sem.run_bind, run_agg hP hagg, Result.andThen_ok, Bool.false_eq_true, if_false, hc, Sem.run_pure]
  · simp [bad] at h

theorem field_ok {t : TypeId} {v a : AV} {f : Nat} {y : Value} (h : fieldA T t v f = some a) (hy : VR C v y) (w : World) :
    ∃ z, (Instr.field t y f).run P w = .ok z w ∧ VR C a z := by
  unfold fieldA at h
  split at h
  · rename_i cs
    split at h
    · rename_i fields hu
      have hu := und_ok hP hu
      split at h
      · rename_i fl hf
        obtain ⟨c, rfl, hc⟩ := hy
        obtain ⟨z, hz, hr⟩ := partV_ok hP h hc w
        exact ⟨z, by simp only [Instr.field, Sem.run_bind, run_underlying hu, Result.andThen_ok, hf, asAgg, Sem.run_pure, hz], hr⟩
      · simp [bad] at h
    · simp [bad] at h
  · simp [bad] at h

omit hP in
theorem idx_ok {i : Int} {len k : Nat} (h : idx i len = some k) : i = (k : Int) ∧ k < len := by
  unfold idx at h
  split at h
  · split at h
    · rename_i hb
      cases h
      exact ⟨rfl, by simpa using hb⟩
    · simp [bad] at h
  · simp [bad] at h

theorem indexAddr_ok {σ : St} {w : World} {t : TypeId} {x i a : AV} {y j : Value} (h : indexAddrA T t x i σ = some a) (hy : VR C x y) (hj : VR C i j) :
    ∃ z, (Instr.indexAt t y j).run P w = .ok z w ∧ VR C a z := by
  unfold indexAddrA at h
  split at h
  · rename_i k n
    cases hj
    split at h
    · rename_i id ver off len lo sz ex
      split at h
      · rename_i elem hu
        have hu := und_ok hP hu
        unfold indexSl at h
        split at h
        · split at h
          · rename_i m hm
            split at h
            · rename_i hb
              simp only [Bool.and_eq_true] at hb
              have e1 := Nat.eq_of_beq_eq_true hb.1
              have e2 := Nat.le_of_ble_eq_true hb.2
              split at h
              · rename_i q hq
                rw [mkPtr_eq] at h
                cases h
                obtain ⟨rfl, hlt⟩ := idx_ok hq
                obtain ⟨ad, cap, rfl, hp, hl, hx, hc⟩ := hy
                refine ⟨.pointer (some (ad.add (q * m))), ?_, ⟨_, rfl, hp, fun hcur => ?_⟩⟩
                · simp only [Instr.indexAt, asIntOf, Sem.run_bind, Sem.run_pure, Result.andThen_ok, run_underlying hu]
                  rw [if_pos (by omega)]
                  simp only [Sem.run_bind, run_size hP hm, Result.andThen_ok, Sem.run_pure, Int.toNat_natCast]
                · obtain ⟨o, rfl, ho, _⟩ := hc hcur
                  rw [ho (by omega), addr_add]
              · cases h
            · simp [bad] at h
          · cases h
        · cases h
      · simp [bad] at h
    · rename_i id ver off
      split at h
      · rename_i len elem hu
        have hu := und_ok hP hu
        unfold indexPtr at h
        split at h
        · rename_i m hm
          split at h
          · rename_i q hq
            rw [mkPtr_eq] at h
            cases h
            obtain ⟨rfl, hlt⟩ := idx_ok hq
            obtain ⟨ad, rfl, hp, hc⟩ := hy
            refine ⟨.pointer (some (ad.add (q * m))), ?_, ⟨_, rfl, hp, fun hcur => ?_⟩⟩
            · simp only [Instr.indexAt, asIntOf, Sem.run_bind, Sem.run_pure, Result.andThen_ok, run_underlying hu, Instr.sureAddr]
              rw [if_pos (by omega)]
              simp only [Sem.run_bind, run_size hP hm, Result.andThen_ok, Sem.run_pure, Int.toNat_natCast]
            · rw [hc hcur, addr_add]
          · cases h
        · cases h
      · simp [bad] at h
    · rename_i id off len
      split at h
      · rename_i elem hu
        have hu := und_ok hP hu
        unfold indexR at h
        split at h
        · rename_i m hm
          split at h
          · rename_i q hq
            cases h
            obtain ⟨rfl, hlt⟩ := idx_ok hq
            obtain ⟨b, cap, rfl, hl, ad, ha, hb⟩ := hy
            rw [hb (by omega)]
            refine ⟨.pointer (some ((ad.add off).add (q * m))), ?_, ⟨ad, by rw [add_add], ha⟩⟩
            simp only [Instr.indexAt, asIntOf, Sem.run_bind, Sem.run_pure, Result.andThen_ok, run_underlying hu]
            rw [if_pos (by omega)]
            simp only [Sem.run_bind, run_size hP hm, Result.andThen_ok, Sem.run_pure, Int.toNat_natCast]
          · cases h
        · cases h
      · simp [bad] at h
    · rename_i id off
      split at h
      · rename_i len elem hu
        have hu := und_ok hP hu
        unfold indexR at h
        split at h
        · rename_i m hm
          split at h
          · rename_i q hq
            cases h
            obtain ⟨rfl, hlt⟩ := idx_ok hq
            obtain ⟨ad, rfl, ha⟩ := hy
            refine ⟨.pointer (some ((ad.add off).add (q * m))), ?_, ⟨ad, by rw [add_add], ha⟩⟩
            simp only [Instr.indexAt, asIntOf, Sem.run_bind, Sem.run_pure, Result.andThen_ok, run_underlying hu, Instr.sureAddr]
            rw [if_pos (by omega)]
            simp only [Sem.run_bind, run_size hP hm, Result.andThen_ok, Sem.run_pure, Int.toNat_natCast]
          · cases h
        · cases h
      · simp [bad] at h
    · simp [bad] at h
  · simp [bad] at h

theorem index_ok {w : World} {t : TypeId} {x i a : AV} {y j : Value} (h : indexA T t x i = some a) (hy : VR C x y) (hj : VR C i j) :
    ∃ z, (Instr.index t y j).run P w = .ok z w ∧ VR C a z := by
  unfold indexA at h
  split at h
  · rename_i k n
    cases hj
    split at h
    · rename_i cs
      split at h
      · rename_i len elem hu
        have hu := und_ok hP hu
        unfold elemAt at h
        split at h
        · rename_i q hq
          split at h
          · rename_i m hm
            obtain ⟨rfl, hlt⟩ := idx_ok hq
            obtain ⟨c, rfl, hc⟩ := hy
            obtain ⟨z, hz, hr⟩ := partV_ok hP h hc w
            refine ⟨z, ?_, hr⟩
            simp only [Instr.index, asIntOf, Sem.run_bind, Sem.run_pure, Result.andThen_ok, run_underlying hu]
            rw [if_pos (by omega)]
            simp only [Sem.run_bind, run_size hP hm, Result.andThen_ok, Int.toNat_natCast, hz]
          · cases h
        · cases h
      · simp [bad] at h
    · rename_i s
      split at h
      · rename_i hu
        have hu := und_ok hP hu
        unfold byteAt at h
        split at h
        · rename_i q hq
          split at h
          · rename_i b hb
            cases h
            obtain ⟨rfl, hlt⟩ := idx_ok hq
            cases hy
            refine ⟨.int .u8 b.toNat, ?_, rfl⟩
            simp only [Instr.index, asIntOf, Sem.run_bind, Sem.run_pure, Result.andThen_ok, run_underlying hu]
            rw [if_pos (by omega), Int.toNat_natCast, hb]
            rfl
          · simp [bad] at h
        · cases h
      · simp [bad] at h
    · simp [bad] at h
  · simp [bad] at h
end

/-! ### Slices -/
def OVR (C : Cx) : Option AV → Option Value → Prop
  | none, none => True
  | some a, some v => VR C a v
  | _, _ => False
theorem natOf_ok {C : Cx} {a : AV} {v : Value} {n : Nat} (h : natOf a = some n) (hv : VR C a v) : ∃ k, v = .int k (n : Int) := by
  unfold natOf at h
  split at h
  · cases h; exact ⟨_, hv⟩
  · simp [bad] at h
theorem run_bound {P : Program} {w : World} {k : IntKind} {n y : Nat} (h : n ≤ y) (c : BoundsCode) : (Instr.sliceBound (.int k (n : Int)) y c).run P w = .ok n w := by
  simp only [Instr.sliceBound, asIntOf, Sem.run_bind, Sem.run_pure, Result.andThen_ok]
  rw [if_pos (by omega)]
  simp
theorem bounds2_ok {P : Program} {C : Cx} {w : World} {lo hi : Option AV} {ylo yhi : Option Value} (hlo : OVR C lo ylo) (hhi : OVR C hi yhi) {b : Bool} {len cap l h : Nat}
    (h1 : boundA 0 lo = some l) (h2 : boundA len hi = some h) (h3 : l ≤ h) (h4 : h ≤ cap) : (Instr.sliceBounds b len cap ylo yhi none).run P w = .ok (l, h, cap) w := by
  unfold boundA at h1 h2
  have hlo' : (lo = none ∧ ylo = none ∧ l = 0) ∨ ∃ k, ylo = some (.int k (l : Int)) := by
    cases lo with
    | none => cases ylo with
      | none => simp at h1; exact .inl ⟨rfl, rfl, h1.symm⟩
      | some v => cases hlo
    | some a => cases ylo with
      | none => cases hlo
      | some v =>
        obtain ⟨k, rfl⟩ := natOf_ok h1 hlo
        exact .inr ⟨k, rfl⟩
  have hhi' : (hi = none ∧ yhi = none ∧ h = len) ∨ ∃ k, yhi = some (.int k (h : Int)) := by
    cases hi with
    | none => cases yhi with
      | none => simp at h2; exact .inl ⟨rfl, rfl, h2.symm⟩
      | some v => cases hhi
    | some a => cases yhi with
      | none => cases hhi
      | some v =>
        obtain ⟨k, rfl⟩ := natOf_ok h2 hhi
        exact .inr ⟨k, rfl⟩
  rcases hlo' with ⟨_, rfl, rfl⟩ | ⟨k1, rfl⟩ <;> rcases hhi' with ⟨_, rfl, rfl⟩ | ⟨k2, rfl⟩ <;>
    simp only [Instr.sliceBounds, Sem.run_bind, Sem.run_pure, Result.andThen_ok, run_bound h4, run_bound h3]

theorem bounds3_ok {P : Program} {C : Cx} {w : World} {lo : Option AV} {hi mx : AV} {ylo : Option Value} {yhi ymx : Value} (hlo : OVR C lo ylo) (hhi : VR C hi yhi) (hmx : VR C mx ymx) {b : Bool} {len cap l h m : Nat}
    (h1 : boundA 0 lo = some l) (h2 : natOf hi = some h) (h0 : natOf mx = some m) (h3 : l ≤ h) (h4 : h ≤ m) (h5 : m ≤ cap) : (Instr.sliceBounds b len cap ylo (some yhi) (some ymx)).run P w = .ok (l, h, m) w := by
  unfold boundA at h1
  obtain ⟨k2, rfl⟩ := natOf_ok h2 hhi
  obtain ⟨k3, rfl⟩ := natOf_ok h0 hmx
  have hlo' : (lo = none ∧ ylo = none ∧ l = 0) ∨ ∃ k, ylo = some (.int k (l : Int)) := by
    cases lo with
    | none => cases ylo with
      | none => simp at h1; exact .inl ⟨rfl, rfl, h1.symm⟩
      | some v => cases hlo
    | some a => cases ylo with
      | none => cases hlo
      | some v =>
        obtain ⟨k, rfl⟩ := natOf_ok h1 hlo
        exact .inr ⟨k, rfl⟩
  rcases hlo' with ⟨_, rfl, rfl⟩ | ⟨k1, rfl⟩ <;>
    simp only [Instr.sliceBounds, Sem.run_bind, Sem.run_pure, Result.andThen_ok, run_bound h5, run_bound h4, run_bound h3]

theorem slice_ok {P : Program} {T : Tb} (hP : TbOk P T) {C : Cx} {w : World} {t : TypeId} {x a : AV} {lo hi mx : Option AV} {y : Value} {ylo yhi ymx : Option Value} (h : sliceA T t x lo hi mx = some a) (hy : VR C x y)
    (hlo : OVR C lo ylo) (hhi : OVR C hi yhi) (hmx : OVR C mx ymx) : ∃ z, (Instr.sliceAt t y ylo yhi ymx).run P w = .ok z w ∧ VR C a z := by
  unfold sliceA at h
  split at h
  · rename_i s
    cases hy
    split at h
    · rename_i hu
      have hu := und_ok hP hu
      split at h
      · cases ymx with
        | some _ => cases hmx
        | none =>
          unfold sliceStr at h
          split at h
          · rename_i l hh h1 h2
            split at h
            · rename_i hb
              cases h
              simp only [Bool.and_eq_true] at hb
              have e1 := Nat.le_of_ble_eq_true hb.1
              have e2 := Nat.le_of_ble_eq_true hb.2
              refine ⟨.string (s.extract l hh), ?_, rfl⟩
              have hbd := bounds2_ok (P := P) (w := w) hlo hhi (b := false) h1 h2 e1 e2
              simp only [Instr.sliceAt, Sem.run_bind, run_underlying hu, Result.andThen_ok, Instr.slice, Option.isSome_none, Bool.false_eq_true, if_false, hbd, Sem.run_pure]
            · simp [bad] at h
          · cases h
      · simp [bad] at h
    · simp [bad] at h
  · cases hy
    split at h
    · rename_i elem hu
      have hu := und_ok hP hu
      split at h
      · rename_i n hn
        have hne : ¬ (mx.isSome = true ∧ hi = none) := by
          rintro ⟨h1, rfl⟩
          cases mx with
          | none => cases h1
          | some m => simp [bad] at h
        have h' : sliceNil (boundA 0 lo) (boundA 0 hi) (boundA 0 mx) = some a := by
          cases mx with
          | none => exact h
          | some m => cases hi with
            | none => exact absurd ⟨rfl, rfl⟩ hne
            | some v => exact h
        unfold sliceNil at h'
        split at h'
        · rename_i b1 b2 b3
          cases h'
          refine ⟨.slice none 0 0, ?_, rfl⟩
          have hbd : (Instr.sliceBounds true 0 0 ylo yhi ymx).run P w = .ok (0, 0, 0) w := by
            cases mx with
            | none => cases ymx with
              | some _ => cases hmx
              | none => exact bounds2_ok hlo hhi b1 b2 (Nat.le_refl _) (Nat.le_refl _)
            | some m => cases hi with
              | none => exact absurd ⟨rfl, rfl⟩ hne
              | some v => cases ymx with
                | none => cases hmx
                | some ym => cases yhi with
                  | none => cases hhi
                  | some yh => exact bounds3_ok hlo hhi hmx b1 b2 b3 (Nat.le_refl _) (Nat.le_refl _) (Nat.le_refl _)
          simp only [Instr.sliceAt, Sem.run_bind, run_underlying hu, Result.andThen_ok, Instr.slice, hbd, run_size hP hn, Sem.run_pure]
          rfl
        · simp [bad] at h'
      · cases h
    · simp [bad] at h
  · rename_i id ver off len cap sz ex
    obtain ⟨ad, cp, rfl, hp, hl, hx, hc⟩ := hy
    split at h
    · rename_i elem hu
      have hu := und_ok hP hu
      unfold sliceSl at h
      split at h
      · cases ymx with
        | some _ => cases hmx
        | none =>
          unfold slice2 at h
          split at h
          · rename_i l hh n h1 h2 h3
            split at h
            · rename_i hb
              simp only [Bool.and_eq_true] at hb
              have e0 := Nat.eq_of_beq_eq_true hb.1.1
              have e1 := Nat.le_of_ble_eq_true hb.1.2
              have e2 := Nat.le_of_ble_eq_true hb.2
              subst e0
              rw [mkSl_eq] at h
              cases h
              have hbd := bounds2_ok (P := P) (w := w) hlo hhi (b := true) h1 h2 e1 (Nat.le_trans e2 hl)
              refine ⟨.slice (if cp = l then some ad else some (ad.add (l * n))) (hh - l) (cp - l), ?_, ?_⟩
              · simp only [Instr.sliceAt, Sem.run_bind, run_underlying hu, Result.andThen_ok, Instr.slice, hbd, run_size hP h3, Sem.run_pure, Option.map_some]
              · refine ⟨if cp = l then ad else ad.add (l * n), cp - l, by split <;> rfl, hp, by omega, fun he => by rw [hx he], fun hcur => ?_⟩
                obtain ⟨o, rfl, ho, hbs⟩ := hc hcur
                by_cases he : cp = l
                · rw [if_pos he]
                  exact ⟨o, rfl, fun h0 => by omega, by rw [he, Nat.sub_self, Nat.zero_mul]; omega⟩
                · rw [if_neg he, addr_add]
                  refine ⟨_, rfl, fun h0 => by rw [ho (by omega)], ?_⟩
                  have : cp * n = l * n + (cp - l) * n := by rw [← Nat.add_mul]; congr 1; omega
                  omega
            · simp [bad] at h
          · cases h
      · rename_i m
        cases ymx with
        | none => cases hmx
        | some ym =>
          split at h
          · rename_i hv
            cases yhi with
            | none => cases hhi
            | some yh =>
              split at h
              · rename_i mm hmm
                unfold slice3 at h
                split at h
                · rename_i l hh n h1 h2 h3
                  split at h
                  · rename_i hb
                    simp only [Bool.and_eq_true] at hb
                    have e0 := Nat.eq_of_beq_eq_true hb.1.1.1
                    have e1 := Nat.le_of_ble_eq_true hb.1.1.2
                    have e2 := Nat.le_of_ble_eq_true hb.1.2
                    have e3 := Nat.le_of_ble_eq_true hb.2
                    subst e0
                    rw [mkSl_eq] at h
                    cases h
                    have hbd := bounds3_ok (P := P) (w := w) hlo hhi hmx (b := true) (len := len) h1 h2 hmm e1 e2 (Nat.le_trans e3 hl)
                    refine ⟨.slice (if mm = l then some ad else some (ad.add (l * n))) (hh - l) (mm - l), ?_, ?_⟩
                    · simp only [Instr.sliceAt, Sem.run_bind, run_underlying hu, Result.andThen_ok, Instr.slice, hbd, run_size hP h3, Sem.run_pure, Option.map_some]
                    · refine ⟨if mm = l then ad else ad.add (l * n), mm - l, by split <;> rfl, hp, Nat.le_refl _, fun _ => rfl, fun hcur => ?_⟩
                      obtain ⟨o, rfl, ho, hbs⟩ := hc hcur
                      by_cases he : mm = l
                      · rw [if_pos he]
                        exact ⟨o, rfl, fun h0 => by omega, by rw [he, Nat.sub_self, Nat.zero_mul]; omega⟩
                      · rw [if_neg he, addr_add]
                        refine ⟨_, rfl, fun h0 => by rw [ho (by omega)], ?_⟩
                        have h6 : (mm - l) * n + l * n ≤ cp * n := by rw [← Nat.add_mul]; exact Nat.mul_le_mul_right n (by omega)
                        omega
                  · simp [bad] at h
                · cases h
              · cases h
          · simp [bad] at h
    · simp [bad] at h
  · rename_i id off len
    obtain ⟨ad, cp, rfl, hl, a0, ha, hb0⟩ := hy
    split at h
    · rename_i elem hu
      have hu := und_ok hP hu
      unfold sliceR at h
      split at h
      · cases ymx with
        | some _ => cases hmx
        | none =>
          unfold sliceR2 at h
          split at h
          · rename_i l hh n h1 h2 h3
            split at h
            · rename_i hb
              simp only [Bool.and_eq_true] at hb
              have e1 := Nat.le_of_ble_eq_true hb.1
              have e2 := Nat.le_of_ble_eq_true hb.2
              cases h
              have hbd := bounds2_ok (P := P) (w := w) hlo hhi (b := true) h1 h2 e1 (Nat.le_trans e2 hl)
              refine ⟨.slice (if cp = l then some ad else some (ad.add (l * n))) (hh - l) (cp - l), ?_, ?_⟩
              · simp only [Instr.sliceAt, Sem.run_bind, run_underlying hu, Result.andThen_ok, Instr.slice, hbd, run_size hP h3, Sem.run_pure, Option.map_some]
              · refine ⟨if cp = l then ad else ad.add (l * n), cp - l, by split <;> rfl, by omega, a0, ha, fun h0 => ?_⟩
                rw [if_neg (by omega), hb0 (by omega), add_add]
            · simp [bad] at h
          · cases h
      · rename_i m
        cases ymx with
        | none => cases hmx
        | some ym =>
          split at h
          · rename_i hv
            cases yhi with
            | none => cases hhi
            | some yh =>
              split at h
              · rename_i mm hmm
                unfold sliceR3 at h
                split at h
                · rename_i l hh n h1 h2 h3
                  split at h
                  · rename_i hb
                    simp only [Bool.and_eq_true] at hb
                    have e1 := Nat.le_of_ble_eq_true hb.1.1
                    have e2 := Nat.le_of_ble_eq_true hb.1.2
                    have e3 := Nat.le_of_ble_eq_true hb.2
                    have hbd := bounds3_ok (P := P) (w := w) hlo hhi hmx (b := true) (len := len) h1 h2 hmm e1 e2 (Nat.le_trans e3 hl)
                    refine ⟨.slice (if mm = l then some ad else some (ad.add (l * n))) (hh - l) (mm - l), ?_, ?_⟩
                    · simp only [Instr.sliceAt, Sem.run_bind, run_underlying hu, Result.andThen_ok, Instr.slice, hbd, run_size hP h3, Sem.run_pure, Option.map_some]
                    · split at h
                      · rename_i hml
                        have hml := Nat.eq_of_beq_eq_true hml
                        cases h
                        have : hh - l = 0 := by omega
                        rw [if_pos hml, this, hml, Nat.sub_self]
                        exact ⟨ad, rfl⟩
                      · rename_i hml
                        have hml : mm ≠ l := fun e => by rw [beq_yes e] at hml; cases hml
                        cases h
                        rw [if_neg hml]
                        refine ⟨_, mm - l, rfl, by omega, a0, ha, fun h0 => ?_⟩
                        rw [hb0 (by omega), add_add]
                  · simp [bad] at h
                · cases h
              · cases h
          · simp [bad] at h
    · simp [bad] at h
  · simp [bad] at h
end Go.Ab
