/- The evaluator's code, calls and rounds, and the model's: the induction over the fuel, but for regions that draw. -/
import Derived.Test.YtmchghdmejbblaaGreatDoorAc
set_option linter.unusedSimpArgs false
set_option linter.unusedVariables false
namespace Go.Ab

/-- What is asked of regions that draw their order. -/
structure DrawOk (P : Program) (T : Tb) (e : Ev) : Prop where
  ro : ∀ {ops fr σ fr' σ'}, evDraw T e ops fr σ = some (fr', σ') → fr'.ro = fr.ro
  ok : ∀ {ops fr σ fr' σ'}, evDraw T e ops fr σ = some (fr', σ') → ∀ {ok : Nat → Prop} {C : Cx} {w : World} {a : Act} {ro : Option Nat} {n id : Nat} {Q : Exit → Act → World → Prop},
    R ok C σ w → (∀ b, w.heap.size ≤ b → ok b) → FR C fr a → (∀ C' w' a', Nx ok C σ w C' σ' w' → FR C' fr' a' → Q .normal a' w') → (Code.region id ops true).wpIn (Fw ro) n P Q a w

theorem least_of {p : Nat → Prop} : ∀ n, p n → ∃ m, p m ∧ ∀ k, p k → m ≤ k := by
  intro n
  induction n using Nat.strongRecOn with
  | _ n ih =>
    intro hn
    by_cases h : ∃ k, k < n ∧ p k
    · obtain ⟨k, hk, hp⟩ := h
      exact ih k hk hp
    · exact ⟨n, hn, fun k hk => by
        rcases Nat.lt_or_ge k n with hl | hl
        · exact absurd ⟨k, hl, hk⟩ h
        · exact hl⟩

theorem wpIn_loop_nat {F : Fence} {n : Nat} {P : Program} {c : Code} {Q : Exit → Act → World → Prop} {a : Act} {w : World} (I : Nat → Act → World → Prop) {j : Nat} (h₀ : I j a w)
    (round : ∀ j a w, I j a w → c.wpIn F n P (Exit.then (fun a' w' => ∃ i, i < j ∧ I i a' w') Q) a w) : (Code.loop c).wpIn F n P Q a w := by
  classical
  let μ : Act → World → Nat := fun a w => if h : ∃ j, I j a w then Classical.choose (least_of (p := fun j => I j a w) h.choose h.choose_spec) else 0
  have hμ : ∀ j a w, I j a w → I (μ a w) a w ∧ μ a w ≤ j := by
    intro j a w h
    have hx : ∃ j, I j a w := ⟨j, h⟩
    have hm := Classical.choose_spec (least_of (p := fun j => I j a w) hx.choose hx.choose_spec)
    have e : μ a w = Classical.choose (least_of (p := fun j => I j a w) hx.choose hx.choose_spec) := dif_pos hx
    rw [e]
    exact ⟨hm.1, hm.2 j h⟩
  refine wpIn_loop (fun a w => ∃ j, I j a w) μ ⟨j, h₀⟩ fun a' w' ⟨j', hj⟩ => ?_
  refine wpIn_mono (round (μ a' w') a' w' (hμ _ _ _ hj).1) fun e a2 w2 hq => ?_
  cases e with
  | normal =>
    obtain ⟨i, hi, hI⟩ := hq
    exact ⟨⟨i, hI⟩, Nat.lt_of_le_of_lt (hμ _ _ _ hI).2 hi⟩
  | _ => exact hq

theorem load_var {P : Program} {T : Tb} (hP : TbOk P T) {ok : Nat → Prop} {C : Cx} {σ : St} {w : World} (hR : R ok C σ w) {t : TypeId} {v a : AV} {y : Value} (h : loadA T t v σ = some a) (hy : VR C v y) :
    ∃ ad z, y = .pointer (some ad) ∧ (loadVar t ad).run P w = .ok z w ∧ VR C a z := by
  unfold loadA at h
  split at h
  · rename_i id ver off
    split at h
    · rename_i cells hc
      obtain ⟨ad, rfl, hp, ha⟩ := hy
      obtain ⟨hcur, c, e, hh, hv, _⟩ := hR.arr hc hp
      obtain ⟨z, hz, hr⟩ := part_ok hP h hh hv
      exact ⟨ad, z, rfl, by rw [ha hcur]; exact hz, hr⟩
    · cases h
  · rename_i id off
    split at h
    · rename_i cells hc
      obtain ⟨ad, rfl, ha⟩ := hy
      obtain ⟨z, hz, hr⟩ := partR_ok hP h (hR.reads hc ha)
      exact ⟨_, z, rfl, hz, hr⟩
    · cases h
  · simp [bad] at h

def readResult (tmps : Array Value) : ResultVar → Sem Value
  | .tmp t => pure (tmps.getD t undef)
  | .cell a t => do loadVar t (← asAddr (tmps.getD a undef))
theorem results_ok {P : Program} {T : Tb} (hP : TbOk P T) {ok : Nat → Prop} {C : Cx} {σ : St} {w : World} (hR : R ok C σ w) {fr : Fr} {tmps : Array Value} (ht : TR C fr.tmps tmps) : ∀ {l : List ResultVar} {vs : List AV}, resultsA T fr σ l = some vs →
    ∃ xs, (l.mapM (readResult tmps)).run P w = .ok xs w ∧ VRs C vs xs
  | [], vs, h => by
    simp only [resultsA, Option.some.injEq] at h
    subst h
    exact ⟨[], by simp, rfl⟩
  | r :: rs, vs, h => by
    simp only [resultsA] at h
    split at h
    · rename_i v vs' h1 h2
      cases h
      obtain ⟨xs, hr, hx⟩ := results_ok hP hR ht h2
      unfold resultA at h1
      split at h1
      · rename_i t
        cases h1
        exact ⟨_ :: xs, by simp only [List.mapM_cons, readResult, Sem.run_bind, Sem.run_pure, Result.andThen_ok, hr], VRs.cons (ht t) hx⟩
      · rename_i a t
        obtain ⟨ad, z, e, h3, h4⟩ := load_var (P := P) hP hR h1 (ht a)
        refine ⟨z :: xs, ?_, VRs.cons h4 hx⟩
        simp only [List.mapM_cons, readResult, e, asAddr, Sem.run_bind, Sem.run_pure, Result.andThen_ok, h3, hr]
    · cases h

theorem leave_ok {P : Program} {T : Tb} (hP : TbOk P T) {ok : Nat → Prop} {C : Cx} {σ σ' : St} {w : World} (hR : R ok C σ w) {fn : Func} {fr : Fr} {tmps : Array Value} (ht : TR C fr.tmps tmps) {v : AV} (h : leave T fn fr (some σ) = some (v, σ')) :
    σ' = σ ∧ ∃ x, (results fn tmps).run P w = .ok x w ∧ VR C v x := by
  unfold leave at h
  simp only at h
  split at h
  · rename_i vs hvs
    cases h
    obtain ⟨xs, hr, hx⟩ := results_ok (P := P) hP hR ht hvs
    refine ⟨rfl, if h : xs.toArray.size = 1 then xs.toArray[0] else .tuple xs.toArray, ?_, ?_⟩
    · have e : (fn.results.mapM (readResult tmps)).run P w = .ok xs.toArray w := by
        rw [Array.mapM_eq_mapM_toList]
        simp [hr]
      have e' : (results fn tmps) = (do let vs ← fn.results.mapM (readResult tmps); pure (if h : vs.size = 1 then vs[0] else .tuple vs)) := rfl
      rw [e']
      simp only [Sem.run_bind, e, Result.andThen_ok, Sem.run_pure]
    · rcases vs with _ | ⟨a, _ | ⟨b, l⟩⟩
      · cases hx
        rw [dif_neg (by simp)]
        exact ⟨_, rfl, rfl⟩
      · obtain ⟨x, l, rfl, hv, hl⟩ := hx
        cases hl
        rw [dif_pos (by simp)]
        exact hv
      · obtain ⟨x, l', rfl, hv, y, l2, rfl, hrest⟩ := hx
        rw [dif_neg (by simp)]
        exact ⟨_, rfl, VRs.cons hv (VRs.cons hrest.1 hrest.2)⟩
  · cases h
end Go.Ab
