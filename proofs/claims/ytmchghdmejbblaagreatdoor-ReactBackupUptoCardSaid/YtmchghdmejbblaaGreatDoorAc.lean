/- The evaluator's code, calls and rounds, and the model's: what is shown; operations in a row. -/
import Derived.Test.YtmchghdmejbblaaGreatDoorAb
import Derived.TacticsIn
set_option linter.unusedSimpArgs false
set_option linter.unusedVariables false
namespace Go.Ab

/-- The fence of all functions, in a frame of a function or of a round. -/
abbrev Fw (ro : Option Nat) : Fence := { Fence.wide with round := ro }

/-- The marks of ranges over functions among the deferred calls. -/
def DfR (C : Cx) : List Nat → List Deferred → Prop
  | [], l => l = []
  | r :: rs, l => ∃ b ds, l = { target := .collected b, args := #[] } :: ds ∧ Past C r 0 ∧ (C.cur r = some 0 → b = C.μ r) ∧ DfR C rs ds
theorem DfR.ext {C C' : Cx} (e : Ext C C') : ∀ {rs : List Nat} {l : List Deferred}, DfR C rs l → DfR C' rs l
  | [], _, h => h
  | r :: rs, _, h => by
    obtain ⟨b, ds, hl, hp, hb, hd⟩ := h
    refine ⟨b, ds, hl, hp.ext e, fun hc => ?_, hd.ext e⟩
    obtain ⟨h1, h2⟩ := hp.here e hc
    rw [h2]; exact hb h1

structure FR (C : Cx) (fr : Fr) (a : Act) : Prop where
  tr : TR C fr.tmps a.tmps
  n : a.tmps.size = fr.n
  df : DfR C fr.dfs a.defers
theorem FR.ext {C C' : Cx} {fr : Fr} {a : Act} (h : FR C fr a) (e : Ext C C') : FR C' fr a := ⟨h.tr.ext e, h.n, h.df.ext e⟩

def exitOf : Xt → Exit
  | .normal => .normal
  | .exit id => .exit id
  | .ret => .ret

def Ret (K : Value → World → Prop) : Ending → World → Prop
  | .returned v, w => K v w
  | _, _ => False

def noYld (args : List AV) : Bool := args.all fun | .yld _ => false | _ => true

/-- The evaluator's word is true of the model. -/
structure Sound (P : Program) (e : Ev) : Prop where
  ro : ∀ {c fr σ x fr' σ'}, e.code c fr σ = some (x, fr', σ') → fr'.ro = fr.ro
  code : ∀ {c fr σ x fr' σ'}, e.code c fr σ = some (x, fr', σ') → ∀ {ok : Nat → Prop} {C : Cx} {w : World} {a : Act} {ro : Option Nat} {n : Nat} {Q : Exit → Act → World → Prop},
    R ok C σ w → (∀ b, w.heap.size ≤ b → ok b) → FR C fr a → (fr.ro = none → ro = none) →
    (∀ C' w' a', Nx ok C σ w C' σ' w' → FR C' fr' a' → Q (exitOf x) a' w') → c.wpIn (Fw ro) n P Q a w
  call : ∀ {f args σ v σ'}, e.call f args σ = some (v, σ') → ∀ {ok : Nat → Prop} {C : Cx} {w : World} {xs : Array Value} {n : Nat} {K : Value → World → Prop},
    R ok C σ w → (∀ b, w.heap.size ≤ b → ok b) → VRs C args xs.toList → (∀ C' w' x, Nx ok C σ w C' σ' w' → VR C' v x → K x w') →
    (noYld args = true ∧ ∃ x w', (callFunc f xs).run P w = .ok (.value x) w' ∧ K x w') ∨ ((callFunc f xs).run P w = .ok (.enter f xs) w ∧ CallsIn Fence.wide n P f xs w (Ret K))
  round : ∀ {l args σ v σ'}, e.round l args σ = some (v, σ') → ∀ {ok : Nat → Prop} {C : Cx} {w : World} {b : Nat} {xs : Array Value} {n : Nat} {K : Value → World → Prop},
    R ok C σ w → (∀ b, w.heap.size ≤ b → ok b) → VR C (.yld l) (.func (.yield b) #[] #[]) → VRs C args xs.toList → (∀ C' w' x, Nx ok C σ w C' σ' w' → VR C' v x → K x w') →
    ∃ g tmps asg body, (Instr.yield b xs).run P w = .ok (.round b g tmps asg body) w ∧ RoundIn Fence.wide n P b g tmps asg body w (Ret K)

theorem getT_set (t : Tr AV) (d e : Nat) (v : AV) (h : d < lim) : getT (t.set 40 d v) e = if e = d then v else getT t e := by
  unfold getT
  rw [get_set40 t d e v h]
  split <;> rfl

theorem put_ok {C : Cx} {fr fr' : Fr} {a : Act} {dst : Option Tmp} {v : AV} {x : Value} (h : fr.put dst v = some fr') (hf : FR C fr a) (hv : VR C v x) : FR C fr' (a.put dst x) ∧ fr'.ro = fr.ro := by
  unfold Fr.put at h
  split at h
  · cases h; exact ⟨hf, rfl⟩
  · rename_i d
    obtain ⟨t, ds, m, ro⟩ := fr
    simp only at h
    split at h
    · rename_i h1 h2
      cases h
      have h1 : d < m := by simpa using h1
      have h2 : d < lim := by simpa using h2
      have hn : a.tmps.size = m := hf.n
      refine ⟨⟨fun e => ?_, by simp [Act.put, hf.n], hf.df⟩, rfl⟩
      have he := hf.tr e
      rw [getT_set _ _ _ _ h2]
      simp only [Act.put, Array.getD_eq_getD_getElem?, Array.getElem?_setIfInBounds] at he ⊢
      by_cases hde : d = e
      · subst hde
        rw [if_pos rfl, if_pos rfl, if_pos (show d < a.tmps.size by rw [hn]; exact h1)]
        exact hv
      · rw [if_neg (fun h => hde h.symm), if_neg hde]
        exact he
    · simp [bad] at h

def boolA : AV → Option Bool
  | .bool b => some b
  | _ => none
def boolV : Value → Option Bool
  | .bool b => some b
  | _ => none
theorem bool_ok {C : Cx} {a : AV} {v : Value} (h : VR C a v) : boolA a = boolV v := by
  cases a <;> simp only [VR] at h
  case bool => subst h; rfl
  case int => subst h; rfl
  case str => subst h; rfl
  case nilp => subst h; rfl
  case ptr => obtain ⟨a, rfl, _⟩ := h; rfl
  case nils => subst h; rfl
  case sl => obtain ⟨a, c, rfl, _⟩ := h; rfl
  case nilm => subst h; rfl
  case mp => obtain ⟨b, rfl, _⟩ := h; rfl
  case nilf => subst h; rfl
  case fn => obtain ⟨x, y, rfl, _⟩ := h; rfl
  case yld => obtain ⟨b, rfl, _⟩ := h; rfl
  case agg => obtain ⟨x, rfl, h⟩ := h; rfl
  case tup => obtain ⟨x, rfl, h⟩ := h; rfl
  case rsl => obtain ⟨a, c, rfl, _⟩ := h; rfl
  case rptr => obtain ⟨a, rfl, _⟩ := h; rfl
  case esl => obtain ⟨a, rfl⟩ := h; rfl
theorem yielded_ok {C : Cx} {t : Tr AV} {tmps : Array Value} (h : TR C t tmps) (ops : Array Oper) : yieldedA ops t = yielded ops tmps := by
  funext j
  unfold yieldedA yielded
  cases (ops[j]?).bind (·.dst) with
  | none => rfl
  | some d =>
    have hd := h d
    rw [Array.getD_eq_getD_getElem?] at hd
    have hb := bool_ok hd
    simp only [Option.bind_some]
    refine Eq.trans (b := boolA (getT t d)) (by cases getT t d <;> rfl) (Eq.trans hb ?_)
    cases ht : tmps[d]? with
    | none => rfl
    | some u => cases u <;> rfl

theorem callsIn_Fw {ro : Option Nat} {n : Nat} {P : Program} {f : FuncId} {args : Array Value} {w : World} {R : Ending → World → Prop} (h : CallsIn Fence.wide n P f args w R) : CallsIn (Fw ro) n P f args w R := h
theorem roundIn_Fw {ro : Option Nat} {n : Nat} {P : Program} {l f : Nat} {tmps : Array Value} {asg body : Code} {w : World} {R : Ending → World → Prop} (h : RoundIn Fence.wide n P l f tmps asg body w R) : RoundIn (Fw ro) n P l f tmps asg body w R := h

theorem semAt_ok {T : Tb} {fr : Fr} {o : Oper} {σ : St} {r : AN × St} (h : aop T fr o σ = some r) (ro : Option Nat) (ρ : Operand → Value) : o.semAt ro ρ = execOp ρ o :=
  Oper.semAt_eq ro ρ o (aop_defer h)

/-- An operation that is wanted. -/
theorem oper_ok {P : Program} {T : Tb} (hP : TbOk P T) {e : Ev} (he : Sound P e) {o : Oper} {fr : Fr} {σ σ' : St} {v : AV} (h : follow e (aop T fr o σ) = some (v, σ')) {ok : Nat → Prop} {C : Cx} {w : World} {a : Act} {ro : Option Nat} {n : Nat} {Q : Exit → Act → World → Prop}
    (hR : R ok C σ w) (hok : ∀ b, w.heap.size ≤ b → ok b) (hF : FR C fr a) {next : Act → World → Prop} (hK : ∀ C' w' x, Nx ok C σ w C' σ' w' → VR C' v x → next (a.put o.dst x) w') :
    o.wpIn (Fw ro) n P a w next Q := by
  refine ⟨fun _ _ => trivial, ?_⟩
  unfold follow at h
  split at h
  · rename_i v1 σ1 ha
    cases h
    rw [semAt_ok ha]
    obtain ⟨C', w', hn, hx⟩ := aop_sound hP hR hok hF.tr ha
    rcases hx with ⟨x, hr, hv⟩ | ⟨hr, rfl⟩
    · rw [hr]; exact hK C' w' x hn hv
    · rw [hr]; exact hK C' w' undef hn ⟨_, rfl, rfl⟩
  · rename_i f args σ1 ha
    rw [semAt_ok ha]
    obtain ⟨rfl, xs, hr, hxs⟩ := aop_sound hP hR hok hF.tr ha
    rw [hr]
    rcases he.call h (n := n - 1) (K := fun x w' => next (a.put o.dst x) w') hR hok hxs (fun C' w' x hn hv => hK C' w' x hn hv) with ⟨_, x, w', hrun, hk⟩ | ⟨hrun, hc⟩
    · rw [hrun]; exact hk
    · rw [hrun]
      refine ⟨fun hd => (by cases hd), callsIn_Fw (CallsIn.mono hc fun en w' hq => ?_)⟩
      cases en with
      | returned x => exact hq
      | panicked c => exact hq.elim
      | outgrown => exact hq.elim
  · rename_i l args σ1 ha
    rw [semAt_ok ha]
    obtain ⟨rfl, b, xs, hb, hr, hxs⟩ := aop_sound hP hR hok hF.tr ha
    rw [hr]
    obtain ⟨g, tmps, asg, body, hrun, hc⟩ := he.round h (n := n - 1) (K := fun x w' => next (a.put o.dst x) w') hR hok hb hxs (fun C' w' x hn hv => hK C' w' x hn hv)
    rw [hrun]
    refine ⟨fun hd => (by cases hd), roundIn_Fw (RoundIn.mono hc fun en w' hq => ?_)⟩
    cases en with
    | returned x => exact hq
    | panicked c => exact hq.elim
    | outgrown => exact hq.elim
  · cases h

/-- An operation of a region, wanted or not. -/
theorem exec1_ok {P : Program} {T : Tb} (hP : TbOk P T) {e : Ev} (he : Sound P e) {ops : Array Oper} {o : Oper} {fr : Fr} {σ σ' : St} {v : AV} (h : exec1 T e ops o fr σ = some (v, σ')) {ok : Nat → Prop} {C : Cx} {w : World} {a : Act} {ro : Option Nat} {n : Nat} {Q : Exit → Act → World → Prop}
    (hR : R ok C σ w) (hok : ∀ b, w.heap.size ≤ b → ok b) (hF : FR C fr a) {next : Act → World → Prop} (hK : ∀ C' w' x, Nx ok C σ w C' σ' w' → VR C' v x → next (a.put o.dst x) w') :
    if Region.wanted o (yielded ops a.tmps) then o.wpIn (Fw ro) n P a w next Q else (∀ f, o.about P w a.eval = some f → (Fw ro).fn f) ∧ next (a.put o.dst undef) w := by
  unfold exec1 at h
  rw [yielded_ok hF.tr] at h
  split at h
  · rename_i hw
    rw [if_pos hw]
    exact oper_ok hP he h hR hok hF hK
  · rename_i hw
    cases h
    rw [if_neg (by rw [hw]; exact Bool.false_ne_true)]
    exact ⟨fun _ _ => trivial, hK C w undef (Nx.refl hR) ⟨_, rfl, rfl⟩⟩

theorem okLater {ok : Nat → Prop} {C C' : Cx} {σ σ' : St} {w w' : World} (hok : ∀ b, w.heap.size ≤ b → ok b) (h : Nx ok C σ w C' σ' w') : ∀ b, w'.heap.size ≤ b → ok b :=
  fun b hb => hok b (Nat.le_trans h.same.size hb)

theorem evList_ok {P : Program} {T : Tb} (hP : TbOk P T) {e : Ev} (he : Sound P e) {ops : Array Oper} {ok : Nat → Prop} {ro : Option Nat} {n : Nat} {Q : Exit → Act → World → Prop} :
    ∀ {l : List Oper} {fr fr' : Fr} {σ σ' : St} {C : Cx} {w : World} {a : Act}, evList T e ops l fr σ = some (fr', σ') → R ok C σ w → (∀ b, w.heap.size ≤ b → ok b) → FR C fr a →
      (∀ C' w' a', Nx ok C σ w C' σ' w' → FR C' fr' a' → Q .normal a' w') → wpListIn (Fw ro) n P ops Q l a w
  | [], fr, fr', σ, σ', C, w, a, h, hR, hok, hF, hQ => by
    simp only [evList, Option.some.injEq, Prod.mk.injEq] at h
    obtain ⟨rfl, rfl⟩ := h
    exact hQ C w a (Nx.refl hR) hF
  | o :: l, fr, fr', σ, σ', C, w, a, h, hR, hok, hF, hQ => by
    simp only [evList] at h
    split at h
    · rename_i v σ1 h1
      split at h
      · rename_i fr1 hp
        refine exec1_ok hP he h1 hR hok hF fun C' w' x hn hv => ?_
        obtain ⟨hF', _⟩ := put_ok hp (hF.ext hn.ext) hv
        exact evList_ok hP he h hn.rel (okLater hok hn) hF' fun C2 w2 a2 hn2 hF2 => hQ C2 w2 a2 (hn.trans hn2) hF2
      · cases h
    · cases h

theorem evList_ro {T : Tb} {e : Ev} {ops : Array Oper} : ∀ {l : List Oper} {fr fr' : Fr} {σ σ' : St}, evList T e ops l fr σ = some (fr', σ') → fr'.ro = fr.ro
  | [], fr, fr', σ, σ', h => by
    simp only [evList, Option.some.injEq, Prod.mk.injEq] at h
    rw [h.1]
  | o :: l, fr, fr', σ, σ', h => by
    simp only [evList] at h
    split at h
    · rename_i v σ1 h1
      split at h
      · rename_i fr1 hp
        rw [evList_ro h]
        unfold Fr.put at hp
        split at hp
        · cases hp; rfl
        · obtain ⟨t, ds, m, ro⟩ := fr
          simp only at hp
          split at hp
          · cases hp; rfl
          · simp [bad] at hp
      · cases h
    · cases h
end Go.Ab
