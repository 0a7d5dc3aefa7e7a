/- Runs of the evaluator with as much fuel as they want: rules for walks. -/
import Derived.Test.YtmchghdmejbblaaGreatDoorBa
set_option linter.unusedSimpArgs false
set_option linter.unusedVariables false
namespace Go.Ab

/-! ### Functions whose calls are known -/
def noArgs (v : AV) (σ : St) : List AV → Option (AV × St)
  | [] => some (v, σ)
  | _ => none
def callZ (args : List AV) (σ : St) (r : Option (AV × St)) : Option AV → Option (AV × St)
  | some v => noArgs v σ args
  | none => r
noncomputable section
def withZ (Z : FuncId → Option AV) (e : Ev) : Ev := { e with call := fun f args σ => callZ args σ (e.call f args σ) (Z f) }
def evZ (T : Tb) (G : Tr Func) (ext : FuncId → Option (List AV → Option AV)) (Z : FuncId → Option AV) (n : Nat) : Ev :=
  Nat.rec none' (fun _ e => withZ Z (step T G ext e)) n
theorem withZ_le {Z : FuncId → Option AV} {e e' : Ev} (h : Le e e') : Le (withZ Z e) (withZ Z e') := by
  refine ⟨fun hx => h.code hx, fun {f args σ r} hx => ?_, fun hx => h.round hx⟩
  have hx : callZ args σ (e.call f args σ) (Z f) = some r := hx
  show callZ args σ (e'.call f args σ) (Z f) = some r
  cases hz : Z f with
  | some v => rw [hz] at hx; exact hx
  | none => rw [hz] at hx; exact h.call hx
theorem evZ_le1 {T : Tb} {G : Tr Func} {ext : FuncId → Option (List AV → Option AV)} {Z : FuncId → Option AV} : ∀ k, Le (evZ T G ext Z k) (evZ T G ext Z (k + 1))
  | 0 => ⟨fun {c fr σ r} hx => (by have hx : (bad "no fuel" : CR) = some r := hx; simp [bad] at hx), fun {c fr σ r} hx => (by have hx : (bad "no fuel" : Option (AV × St)) = some r := hx; simp [bad] at hx), fun {c fr σ r} hx => (by have hx : (bad "no fuel" : Option (AV × St)) = some r := hx; simp [bad] at hx)⟩
  | k + 1 => withZ_le (step_le (evZ_le1 k))
theorem evZ_le {T : Tb} {G : Tr Func} {ext : FuncId → Option (List AV → Option AV)} {Z : FuncId → Option AV} {k k' : Nat} (h : k ≤ k') : Le (evZ T G ext Z k) (evZ T G ext Z k') := by
  induction h with
  | refl => exact Le.refl _
  | step _ ih => exact ih.trans (evZ_le1 _)
def KnownOk (P : Program) (Z : FuncId → Option AV) : Prop :=
  ∀ f v, Z f = some v → ∃ x, (∀ C, VR C v x) ∧ (∀ w, (callFunc f #[]).run P w = .ok (.enter f #[]) w) ∧ ∀ w, Calls P f #[] w fun e w' => e = .returned x ∧ RowKit.Below w.heap.size w w'

/-- Memory has grown, and nothing that was is turned. -/
theorem Nx.below {ok : Nat → Prop} {C : Cx} {σ : St} {w w' : World} (h : R ok C σ w) (hok : ∀ b, w.heap.size ≤ b → ok b) (hb : RowKit.Below w.heap.size w w') : Nx ok C σ w C σ w' := by
  have hno : ∀ k, ¬ ok k → w'.heap[k]? = w.heap[k]? := fun k hk => hb.block k (by
    rcases Nat.lt_or_ge k w.heap.size with h | h
    · exact h
    · exact absurd (hok k h) hk)
  refine ⟨⟨fun id o cv hg hc => ?_, h.dom, h.inj, h.lt, fun b => ?_, h.le, fun id cells hg => ?_⟩, Ext.refl C, ⟨hb.os, hb.tape, hb.output, hb.size, hno⟩, fun _ _ hc => ⟨rfl, hc⟩, Nat.le_refl _⟩
  · obtain ⟨h1, h2, h3⟩ := h.obj id o cv hg hc
    exact ⟨h1, h2.ext (Ext.refl C) (hb.block _ h2.lt), h3⟩
  · have := h.bs b
    rcases Nat.lt_or_ge b w.heap.size with hl | hl
    · unfold bsize at *
      rw [hb.block b hl]
      exact this
    · have h0 : bsize w b = 0 := by unfold bsize; rw [Array.getElem?_eq_none hl]
      omega
  · obtain ⟨h1, a, h2, h3⟩ := h.ro id cells hg
    exact ⟨h1, a, h2, h3.keep (Ext.refl C) hno⟩

theorem soundZ {P : Program} {T : Tb} (hP : TbOk P T) (hm : P.follows .mixedOrders = true) {G : Tr Func} (hG : ∀ f fn, G.get f = some fn → P.funcs[f]? = some fn) {ext : FuncId → Option (List AV → Option AV)} (hE : ExtOk P ext)
    {Z : FuncId → Option AV} (hZ : KnownOk P Z) : ∀ k, Sound P (evZ T G ext Z k) := by
  intro k
  induction k using Nat.strongRecOn with
  | _ k ih =>
    cases k with
    | zero =>
      refine ⟨fun {c fr σ x fr' σ'} h => ?_, fun {c fr σ x fr' σ'} h => ?_, fun {f args σ v σ'} h => ?_, fun {l args σ v σ'} h => ?_⟩
      · have h : (bad "no fuel" : CR) = some (x, fr', σ') := h
        simp [bad] at h
      · have h : (bad "no fuel" : CR) = some (x, fr', σ') := h
        simp [bad] at h
      · have h : (bad "no fuel" : Option (AV × St)) = some (v, σ') := h
        simp [bad] at h
      · have h : (bad "no fuel" : Option (AV × St)) = some (v, σ') := h
        simp [bad] at h
    | succ k =>
      have he := ih k (Nat.lt_succ_self k)
      have hd := draw_ok hP hm _ he
      have hro : ∀ {c fr σ x fr' σ'}, (evZ T G ext Z (k + 1)).code c fr σ = some (x, fr', σ') → fr'.ro = fr.ro := fun {c fr σ x fr' σ'} h => code_ro (T := T) he.ro hd.ro (c := c) h
      refine ⟨hro, fun {c fr σ x fr' σ'} h {ok C w a ro n Q} hR hok hF hro' hQ => ?_, fun {f args σ v σ'} h {ok C w xs n K} hR hok hx hK => ?_, fun {l args σ v σ'} h {ok C w b xs n K} hR hok hy hx hK => ?_⟩
      · by_cases hc : ∀ b, c ≠ .loop b
        · exact code_flat hP he hd hc h hR hok hF hro' hQ
        · obtain ⟨b, rfl⟩ : ∃ b, c = .loop b := by
            cases c <;> first | exact ⟨_, rfl⟩ | exact absurd (fun b e => by cases e) hc
          refine wpIn_loop_nat (fun j a' w' => j ≤ k + 1 ∧ ∃ C' fr1 σ1, (evZ T G ext Z j).code (.loop b) fr1 σ1 = some (x, fr', σ') ∧ Nx ok C σ w C' σ1 w' ∧ FR C' fr1 a' ∧ fr1.ro = fr.ro) (j := k + 1) ⟨Nat.le_refl _, C, fr, σ, h, Nx.refl hR, hF, rfl⟩ ?_
          intro j a' w' hI
          obtain ⟨hj, C', fr1, σ1, h1, hn, hF1, hr1⟩ := hI
          cases j with
          | zero =>
            have h1 : (bad "no fuel" : CR) = some (x, fr', σ') := h1
            simp [bad] at h1
          | succ i =>
            have hi := ih i (by omega)
            have h1 : thenC (fun fr σ => (evZ T G ext Z i).code (.loop b) fr σ) ((evZ T G ext Z i).code b fr1 σ1) = some (x, fr', σ') := h1
            rcases thenC_cases h1 with ⟨fr2, σ2, h2, h3⟩ | ⟨h2, hx⟩
            · refine hi.code h2 hn.rel (okLater hok hn) hF1 (by rw [hr1]; exact hro') fun C2 w2 a2 hn2 hF2 => ?_
              exact ⟨i, Nat.lt_succ_self i, by omega, C2, fr2, σ2, h3, hn.trans hn2, hF2, by rw [hi.ro h2, hr1]⟩
            · refine hi.code h2 hn.rel (okLater hok hn) hF1 (by rw [hr1]; exact hro') fun C2 w2 a2 hn2 hF2 => ?_
              exact then_exit hx (hQ C2 w2 a2 (hn.trans hn2) hF2)
      · have h : callZ args σ (callC T ext (evZ T G ext Z k) f args σ (G.get f)) (Z f) = some (v, σ') := h
        cases hz : Z f with
        | some u =>
          rw [hz] at h
          cases args with
          | cons _ _ => cases h
          | nil =>
            have h : some (u, σ) = some (v, σ') := h
            cases h
            obtain ⟨x, h1, h2, h3⟩ := hZ f _ hz
            have hxs : xs = #[] := by apply Array.ext'; simpa [VRs] using hx
            subst hxs
            refine .inr ⟨h2 w, callsIn_wide.2 ((h3 w).mono fun e w' hq => ?_)⟩
            rw [hq.1]
            exact hK C w' x (Nx.below hR hok hq.2) (h1 C)
        | none =>
          rw [hz] at h
          exact call_step hP hG hE he h hR hok hx hK
      · exact round_step he h hR hok hy hx hK

/-- The tables. -/
structure Mac where
  T : Tb
  G : Tr Func
  X : FuncId → Option (List AV → Option AV)
  Z : FuncId → Option AV
variable {M : Mac}
def Mac.ev (M : Mac) (k : Nat) : Ev := evZ M.T M.G M.X M.Z k
theorem Mac.le {k k' : Nat} (h : k ≤ k') : Le (M.ev k) (M.ev k') := evZ_le h

def Co (M : Mac) (c : Code) (fr : Fr) (σ : St) (Q : Xt → Fr → St → Prop) : Prop := ∃ k x fr' σ', (M.ev k).code c fr σ = some (x, fr', σ') ∧ Q x fr' σ'
def Ca (M : Mac) (f : FuncId) (args : List AV) (σ : St) (Q : AV → St → Prop) : Prop := ∃ k v σ', (M.ev k).call f args σ = some (v, σ') ∧ Q v σ'
def Rn (M : Mac) (l : Nat) (args : List AV) (σ : St) (Q : AV → St → Prop) : Prop := ∃ k v σ', (M.ev k).round l args σ = some (v, σ') ∧ Q v σ'
def Os (M : Mac) (ops : Array Oper) (l : List Oper) (fr : Fr) (σ : St) (Q : Fr → St → Prop) : Prop := ∃ k fr' σ', evList M.T (M.ev k) ops l fr σ = some (fr', σ') ∧ Q fr' σ'
def Ex (M : Mac) (ops : Array Oper) (o : Oper) (fr : Fr) (σ : St) (Q : AV → St → Prop) : Prop := ∃ k v σ', exec1 M.T (M.ev k) ops o fr σ = some (v, σ') ∧ Q v σ'

theorem Co.mono {c : Code} {fr : Fr} {σ : St} {Q Q' : Xt → Fr → St → Prop} (h : Co M c fr σ Q) (i : ∀ x fr σ, Q x fr σ → Q' x fr σ) : Co M c fr σ Q' := by
  obtain ⟨k, x, fr', σ', h, q⟩ := h
  exact ⟨k, x, fr', σ', h, i _ _ _ q⟩
theorem Ca.mono {f : FuncId} {args : List AV} {σ : St} {Q Q' : AV → St → Prop} (h : Ca M f args σ Q) (i : ∀ v σ, Q v σ → Q' v σ) : Ca M f args σ Q' := by
  obtain ⟨k, v, σ', h, q⟩ := h
  exact ⟨k, v, σ', h, i _ _ q⟩

theorem Co.skip {fr : Fr} {σ : St} {Q : Xt → Fr → St → Prop} (h : Q .normal fr σ) : Co M .skip fr σ Q := ⟨1, _, _, _, rfl, h⟩
theorem Co.ret {fr : Fr} {σ : St} {Q : Xt → Fr → St → Prop} (h : Q .ret fr σ) : Co M .ret fr σ Q := ⟨1, _, _, _, rfl, h⟩
theorem Co.exit {id : Nat} {fr : Fr} {σ : St} {Q : Xt → Fr → St → Prop} (h : Q (.exit id) fr σ) : Co M (.exit id) fr σ Q := ⟨1, _, _, _, rfl, h⟩

def Then (M : Mac) (b : Code) (Q : Xt → Fr → St → Prop) : Xt → Fr → St → Prop
  | .normal, fr, σ => Co M b fr σ Q
  | x, fr, σ => Q x fr σ
theorem Co.both {b : Code} {Q : Xt → Fr → St → Prop} {c : Code} {fr : Fr} {σ : St} {e : Nat → Code} (h : Co M c fr σ (Then M b Q))
    (he : ∀ k fr σ, (M.ev (k + 1)).code (e k) fr σ = thenC (fun fr σ => (M.ev k).code b fr σ) ((M.ev k).code c fr σ)) : ∃ k x fr' σ', (M.ev (k + 1)).code (e k) fr σ = some (x, fr', σ') ∧ Q x fr' σ' := by
  obtain ⟨k, x, fr', σ', h, q⟩ := h
  cases x with
  | normal =>
    obtain ⟨k2, x2, fr2, σ2, h2, q2⟩ := q
    refine ⟨max k k2, x2, fr2, σ2, ?_, q2⟩
    rw [he, (M.le (Nat.le_max_left k k2)).code h]
    exact (M.le (Nat.le_max_right k k2)).code h2
  | exit id => exact ⟨k, .exit id, fr', σ', by rw [he, h]; rfl, q⟩
  | ret => exact ⟨k, .ret, fr', σ', by rw [he, h]; rfl, q⟩
theorem Co.seq {a b : Code} {fr : Fr} {σ : St} {Q : Xt → Fr → St → Prop} (h : Co M a fr σ (Then M b Q)) : Co M (.seq a b) fr σ Q := by
  obtain ⟨k, h⟩ := Co.both (e := fun _ => .seq a b) h (fun k fr σ => rfl)
  exact ⟨k + 1, h⟩
theorem Co.loop1 {b : Code} {fr : Fr} {σ : St} {Q : Xt → Fr → St → Prop} (h : Co M b fr σ (Then M (.loop b) Q)) : Co M (.loop b) fr σ Q := by
  obtain ⟨k, h⟩ := Co.both (e := fun _ => .loop b) h (fun k fr σ => rfl)
  exact ⟨k + 1, h⟩
theorem Co.cond {c : Operand} {a b : Code} {fr : Fr} {σ : St} {Q : Xt → Fr → St → Prop} (t : Bool) (hc : evO fr c = some (.bool t)) (h : Co M (branch a b t) fr σ Q) : Co M (.cond c a b) fr σ Q := by
  obtain ⟨k, x, fr', σ', h, q⟩ := h
  refine ⟨k + 1, x, fr', σ', ?_, q⟩
  show condC (fun t => (M.ev k).code (branch a b t) fr σ) (evO fr c) = _
  rw [hc]; exact h
def Blk (id : Nat) (Q : Xt → Fr → St → Prop) : Xt → Fr → St → Prop
  | .exit j, fr, σ => if j = id then Q .normal fr σ else Q (.exit j) fr σ
  | x, fr, σ => Q x fr σ
theorem Co.block {id : Nat} {b : Code} {fr : Fr} {σ : St} {Q : Xt → Fr → St → Prop} (h : Co M b fr σ (Blk id Q)) : Co M (.block id b) fr σ Q := by
  obtain ⟨k, x, fr', σ', h, q⟩ := h
  cases x with
  | normal => exact ⟨k + 1, .normal, fr', σ', by show blockC id ((M.ev k).code b fr σ) = _; rw [h]; rfl, q⟩
  | ret => exact ⟨k + 1, .ret, fr', σ', by show blockC id ((M.ev k).code b fr σ) = _; rw [h]; rfl, q⟩
  | exit j =>
    change (if j = id then Q .normal fr' σ' else Q (.exit j) fr' σ') at q
    by_cases e : j = id
    · rw [if_pos e] at q
      exact ⟨k + 1, .normal, fr', σ', by show blockC id ((M.ev k).code b fr σ) = _; rw [h]; simp only [blockC, beq_yes e], q⟩
    · rw [if_neg e] at q
      exact ⟨k + 1, .exit j, fr', σ', by show blockC id ((M.ev k).code b fr σ) = _; rw [h]; simp only [blockC, beq_no e], q⟩
/-- A loop, with a count that falls. -/
theorem Co.loop {b : Code} (I : Nat → Fr → St → Prop) {Q : Xt → Fr → St → Prop} (h : ∀ n fr σ, I n fr σ → Co M b fr σ fun x fr' σ' => match x with | .normal => ∃ m, m < n ∧ I m fr' σ' | x => Q x fr' σ')
    (n : Nat) : ∀ fr σ, I n fr σ → Co M (.loop b) fr σ Q := by
  induction n using Nat.strongRecOn with
  | ind n ih =>
    intro fr σ hI
    refine Co.loop1 ((h n fr σ hI).mono fun x fr' σ' q => ?_)
    cases x with
    | normal => obtain ⟨m, hm, q⟩ := q; exact ih m hm fr' σ' q
    | exit id => exact q
    | ret => exact q
theorem Co.region {id : Nat} {ops : Array Oper} {fr : Fr} {σ : St} {Q : Xt → Fr → St → Prop} (h : Os M ops ops.toList fr σ (Q .normal)) : Co M (.region id ops false) fr σ Q := by
  obtain ⟨k, fr', σ', h, q⟩ := h
  refine ⟨k + 1, .normal, fr', σ', ?_, q⟩
  show normalC (evList M.T (M.ev k) ops ops.toList fr σ) = _
  rw [h]; rfl

/-! ### Operations in a row -/
theorem Os.nil {ops : Array Oper} {fr : Fr} {σ : St} {Q : Fr → St → Prop} (h : Q fr σ) : Os M ops [] fr σ Q := ⟨0, fr, σ, rfl, h⟩
theorem Ex.val {ops : Array Oper} {o : Oper} {fr : Fr} {σ σ1 : St} {v : AV} {Q : AV → St → Prop} (hw : Region.wanted o (yieldedA ops fr.tmps) = true) (ha : aop M.T fr o σ = some (.val v, σ1)) (h : Q v σ1) : Ex M ops o fr σ Q := by
  refine ⟨0, v, σ1, ?_, h⟩
  unfold exec1
  rw [hw]
  show follow _ (aop M.T fr o σ) = _
  rw [ha]; rfl
theorem Ex.call {ops : Array Oper} {o : Oper} {fr : Fr} {σ σ1 : St} {f : FuncId} {args : List AV} {Q : AV → St → Prop} (hw : Region.wanted o (yieldedA ops fr.tmps) = true) (ha : aop M.T fr o σ = some (.enter f args, σ1)) (h : Ca M f args σ1 Q) : Ex M ops o fr σ Q := by
  obtain ⟨k, v, σ', h, q⟩ := h
  refine ⟨k, v, σ', ?_, q⟩
  unfold exec1
  rw [hw]
  show follow _ (aop M.T fr o σ) = _
  rw [ha]; exact h
theorem Ex.round {ops : Array Oper} {o : Oper} {fr : Fr} {σ σ1 : St} {l : Nat} {args : List AV} {Q : AV → St → Prop} (hw : Region.wanted o (yieldedA ops fr.tmps) = true) (ha : aop M.T fr o σ = some (.round l args, σ1)) (h : Rn M l args σ1 Q) : Ex M ops o fr σ Q := by
  obtain ⟨k, v, σ', h, q⟩ := h
  refine ⟨k, v, σ', ?_, q⟩
  unfold exec1
  rw [hw]
  show follow _ (aop M.T fr o σ) = _
  rw [ha]; exact h
theorem Ex.skip {ops : Array Oper} {o : Oper} {fr : Fr} {σ : St} {Q : AV → St → Prop} (hw : Region.wanted o (yieldedA ops fr.tmps) = false) (h : Q (.tup []) σ) : Ex M ops o fr σ Q := by
  refine ⟨0, .tup [], σ, ?_, h⟩
  unfold exec1
  rw [hw]
theorem Os.cons {ops : Array Oper} {o : Oper} {l : List Oper} {fr : Fr} {σ : St} {Q : Fr → St → Prop} (h : Ex M ops o fr σ fun v σ1 => ∃ fr1, fr.put o.dst v = some fr1 ∧ Os M ops l fr1 σ1 Q) : Os M ops (o :: l) fr σ Q := by
  obtain ⟨k, v, σ1, h, fr1, hp, k2, fr2, σ2, h2, q⟩ := h
  refine ⟨max k k2, fr2, σ2, ?_, q⟩
  simp only [evList]
  rw [exec1_le (M.le (Nat.le_max_left k k2)) h]
  simp only [hp]
  exact evList_le (M.le (Nat.le_max_right k k2)) h2

/-! ### Regions that draw -/
def Al (M : Mac) (ops : Array Oper) (l : List (Nat × Oper)) (fr : Fr) (σ : St) (Q : Fr → St → Prop) : Prop := ∃ k fr' σ', evAllocs M.T (M.ev k) ops l fr σ = some (fr', σ') ∧ Q fr' σ'
def Pl (M : Mac) (ops : Array Oper) (l : List (Nat × Oper)) (fr : Fr) (hist : List St) (lv : List (Nat × Nat)) (Q : Fr → St → Prop) : Prop :=
  ∃ k fr' σ' past, evPlan M.T (M.ev k) ops l fr hist lv = some (fr', σ' :: past) ∧ Q fr' σ'
theorem Al.nil {ops : Array Oper} {fr : Fr} {σ : St} {Q : Fr → St → Prop} (h : Q fr σ) : Al M ops [] fr σ Q := ⟨0, fr, σ, rfl, h⟩
theorem Al.cons {ops : Array Oper} {p : Nat × Oper} {l : List (Nat × Oper)} {fr : Fr} {σ : St} {Q : Fr → St → Prop} (h : Ex M ops p.2 fr σ fun v σ1 => ∃ fr1, fr.put p.2.dst v = some fr1 ∧ Al M ops l fr1 σ1 Q) : Al M ops (p :: l) fr σ Q := by
  obtain ⟨k, v, σ1, h, fr1, hp, k2, fr2, σ2, h2, q⟩ := h
  refine ⟨max k k2, fr2, σ2, ?_, q⟩
  simp only [evAllocs]
  rw [exec1_le (M.le (Nat.le_max_left k k2)) h]
  simp only [hp]
  exact evAllocs_le (M.le (Nat.le_max_right k k2)) h2
theorem Co.draw {id : Nat} {ops : Array Oper} {fr : Fr} {σ : St} {Q : Xt → Fr → St → Prop} (al rs : List (Nat × Oper)) (ha : allocsOf ops = al) (hr : restOf ops = rs) (hd : drawOk ops al rs = true)
    (h : Al M ops al fr σ fun fr1 σ1 => Pl M ops rs fr1 [σ1] [] (Q .normal)) : Co M (.region id ops true) fr σ Q := by
  subst ha; subst hr
  obtain ⟨k, fr1, σ1, h1, k2, fr2, σ2, past, h2, q⟩ := h
  refine ⟨max k k2 + 1, .normal, fr2, σ2, ?_, q⟩
  show normalC (evDraw M.T (M.ev (max k k2)) ops fr σ) = _
  unfold evDraw
  rw [hd]
  simp only
  rw [evAllocs_le (M.le (Nat.le_max_left k k2)) h1]
  simp only [evRest]
  rw [evPlan_le (M.le (Nat.le_max_right k k2)) h2]
  rfl
theorem Pl.nil {ops : Array Oper} {fr : Fr} {σ : St} {past : List St} {lv : List (Nat × Nat)} {Q : Fr → St → Prop} (h : Q fr σ) : Pl M ops [] fr (σ :: past) lv Q := ⟨0, fr, σ, past, rfl, h⟩
/-- An operation that writes: a call, a store, .. -/
theorem Pl.wr {ops : Array Oper} {p : Nat × Oper} {l : List (Nat × Oper)} {fr : Fr} {σ : St} {past : List St} {lv : List (Nat × Nat)} {Q : Fr → St → Prop} (hk : kindOf p.2 = 2)
    (h : Ex M ops p.2 fr σ fun v σ1 => ∃ fr1, fr.put p.2.dst v = some fr1 ∧ Pl M ops l fr1 (σ1 :: σ :: past) ((p.1, past.length + 1) :: lv) Q) : Pl M ops (p :: l) fr (σ :: past) lv Q := by
  obtain ⟨k, v, σ1, h, fr1, hp, k2, fr2, σ2, past2, h2, q⟩ := h
  refine ⟨max k k2, fr2, σ2, past2, ?_, q⟩
  simp only [evPlan]
  rw [exec1_le (M.le (Nat.le_max_left k k2)) h]
  simp only [hp]
  have h0 : Nat.beq (kindOf p.2) 0 = false := by rw [hk]; rfl
  have hl : loud p.2 = true := by unfold loud; rw [hk]; rfl
  rw [h0, hl]
  simp only
  exact evPlan_le (M.le (Nat.le_max_right k k2)) h2
mutual
theorem AV.same_refl : ∀ a : AV, AV.same a a = true
  | .bool _ => by simp [AV.same]
  | .int _ _ => by simp [AV.same]
  | .str _ => by simp [AV.same]
  | .nilp => rfl
  | .ptr _ _ _ => by simp [AV.same]
  | .nils => rfl
  | .sl _ _ _ _ _ _ _ => by simp [AV.same]
  | .nilm => rfl
  | .mp _ => by simp [AV.same]
  | .nilf => rfl
  | .fn _ a b => by simp [AV.same, AV.sameL_refl a, AV.sameL_refl b]
  | .yld _ => by simp [AV.same]
  | .agg a => by simp [AV.same, AV.sameL_refl a]
  | .tup a => by simp [AV.same, AV.sameL_refl a]
  | .rsl _ _ _ => by simp [AV.same]
  | .rptr _ _ => by simp [AV.same]
  | .esl => rfl
theorem AV.sameL_refl : ∀ a : List AV, AV.sameL a a = true
  | [] => rfl
  | a :: l => by simp [AV.sameL, AV.same_refl a, AV.sameL_refl l]
end
/-- An operation that only looks: of the same value in the stores of before. -/
theorem Pl.quiet {ops : Array Oper} {p : Nat × Oper} {l : List (Nat × Oper)} {fr : Fr} {σ : St} {past : List St} {lv : List (Nat × Nat)} {Q : Fr → St → Prop} (hk : kindOf p.2 = 0) {v : AV} {σ1 : St}
    (hw : Region.wanted p.2 (yieldedA ops fr.tmps) = true) (ha : aop M.T fr p.2 σ = some (.val v, σ1)) (hs : ∀ τ ∈ past.take (past.length - needed lv p.2), ∃ τ1, aop M.T fr p.2 τ = some (.val v, τ1))
    {fr1 : Fr} (hp : fr.put p.2.dst v = some fr1) (h : Pl M ops l fr1 (σ :: past) ((p.1, needed lv p.2) :: lv) Q) : Pl M ops (p :: l) fr (σ :: past) lv Q := by
  obtain ⟨k2, fr2, σ2, past2, h2, q⟩ := h
  have one : ∀ τ τ1, aop M.T fr p.2 τ = some (.val v, τ1) → exec1 M.T (M.ev k2) ops p.2 fr τ = some (v, τ1) := fun τ τ1 h => by
    unfold exec1
    rw [hw]
    show follow _ (aop M.T fr p.2 τ) = _
    rw [h]; rfl
  refine ⟨k2, fr2, σ2, past2, ?_, q⟩
  simp only [evPlan]
  rw [one _ _ ha]
  simp only [hp]
  have h0 : Nat.beq (kindOf p.2) 0 = true := by rw [hk]; rfl
  rw [h0]
  have hg : again M.T (M.ev k2) ops p.2 fr v (past.take (past.length - needed lv p.2)) = true := by
    unfold again
    rw [List.all_eq_true]
    intro τ hτ
    obtain ⟨τ1, e⟩ := hs τ hτ
    rw [one _ _ e]
    exact AV.same_refl v
  simp only [hg]
  exact h2
theorem Pl.skip {ops : Array Oper} {p : Nat × Oper} {l : List (Nat × Oper)} {fr : Fr} {σ : St} {past : List St} {lv : List (Nat × Nat)} {Q : Fr → St → Prop} (hk : kindOf p.2 = 0)
    (hw : Region.wanted p.2 (yieldedA ops fr.tmps) = false)
    {fr1 : Fr} (hp : fr.put p.2.dst (.tup []) = some fr1) (h : Pl M ops l fr1 (σ :: past) ((p.1, needed lv p.2) :: lv) Q) : Pl M ops (p :: l) fr (σ :: past) lv Q := by
  obtain ⟨k2, fr2, σ2, past2, h2, q⟩ := h
  have one : ∀ τ, exec1 M.T (M.ev k2) ops p.2 fr τ = some (.tup [], τ) := fun τ => by
    unfold exec1
    rw [hw]
  refine ⟨k2, fr2, σ2, past2, ?_, q⟩
  simp only [evPlan]
  rw [one]
  simp only [hp]
  have h0 : Nat.beq (kindOf p.2) 0 = true := by rw [hk]; rfl
  rw [h0]
  have hg : again M.T (M.ev k2) ops p.2 fr (.tup []) (past.take (past.length - needed lv p.2)) = true := by
    unfold again
    rw [List.all_eq_true]
    intro τ hτ
    rw [one]
    exact AV.same_refl _
  simp only [hg]
  exact h2

/-! ### Calls -/
def Leave (M : Mac) (fn : Func) (Q : AV → St → Prop) : Xt → Fr → St → Prop
  | .exit _, _, _ => False
  | _, fr, σ => fr.dfs = [] ∧ ∃ vs, resultsA M.T fr σ fn.results.toList = some vs ∧ Q (resOf vs) σ
theorem Ca.known {f : FuncId} {v : AV} {σ : St} {Q : AV → St → Prop} (hz : M.Z f = some v) (h : Q v σ) : Ca M f [] σ Q := by
  refine ⟨1, v, σ, ?_, h⟩
  show callZ [] σ _ (M.Z f) = _
  rw [hz]
  rfl
theorem Ca.enter {f : FuncId} {fn : Func} {c : Code} {args : List AV} {σ : St} {Q : AV → St → Prop} (hz : M.Z f = none) (hf : M.G.get f = some fn) (hb : fn.body = some c) (hn : (fn.name == "runtime.NumGoroutine") = false) (ha : args.length ≤ 1000)
    (n : Nat) (t : Tr AV) (hm : args.length + (fn.ntmps - args.length) = n) (ht : argTmps 0 args .leaf = t)
    (h : Co M c ⟨t, [], n, none⟩ σ (Leave M fn Q)) : Ca M f args σ Q := by
  subst hm; subst ht
  obtain ⟨k, x, fr', σ', h, q⟩ := h
  have ha' : Nat.ble args.length 1000 = true := Nat.ble_eq_true_of_le ha
  have key : ∀ r, endCall M.T fn ((M.ev k).code c ⟨argTmps 0 args .leaf, [], args.length + (fn.ntmps - args.length), none⟩ σ) = r → (M.ev (k + 1)).call f args σ = r := fun r hr => by
    show callZ args σ (callC M.T M.X (M.ev k) f args σ (M.G.get f)) (M.Z f) = r
    rw [hz]
    show callC M.T M.X (M.ev k) f args σ (M.G.get f) = r
    rw [hf]
    show funcC M.T M.X (M.ev k) f args σ fn fn.body = r
    rw [hb]
    show bodyC M.T (M.ev k) fn args σ c = r
    unfold bodyC
    rw [hn, ha']
    exact hr
  cases x with
  | exit id => exact q.elim
  | normal =>
    obtain ⟨hd, vs, hv, q⟩ := q
    refine ⟨k + 1, resOf vs, σ', key _ ?_, q⟩
    rw [h]
    show leave M.T fn fr' (takeDefs fr'.dfs σ') = _
    rw [hd]
    show leave M.T fn fr' (some σ') = _
    unfold leave
    simp only [hv]
  | ret =>
    obtain ⟨hd, vs, hv, q⟩ := q
    refine ⟨k + 1, resOf vs, σ', key _ ?_, q⟩
    rw [h]
    show leave M.T fn fr' (takeDefs fr'.dfs σ') = _
    rw [hd]
    show leave M.T fn fr' (some σ') = _
    unfold leave
    simp only [hv]
end
end Go.Ab
