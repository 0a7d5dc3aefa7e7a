/- Walks through regions that draw their order. -/
import Derived.Test.YtmchghdmejbblaaGreatDoorBe
set_option linter.unusedSimpArgs false
set_option linter.unusedVariables false
noncomputable section
namespace Go.Ab
variable {M : Mac}

def pkK (i : Nat) (r : List (Nat × Oper)) : Option Oper → List (Nat × Oper)
  | some o => (i, o) :: r
  | none => r
def pk (ops : Array Oper) : List Nat → List (Nat × Oper)
  | [] => []
  | i :: l => pkK i (pk ops l) ops[i]?
theorem pk_nil {ops : Array Oper} : pk ops [] = [] := rfl
theorem pk_cons {ops : Array Oper} {i : Nat} {l : List Nat} : pk ops (i :: l) = pkK i (pk ops l) ops[i]? := rfl
theorem pkK_some {i : Nat} {r : List (Nat × Oper)} {o : Oper} : pkK i r (some o) = (i, o) :: r := rfl

def Same1 (v : AV) : Option (AN × St) → Prop
  | some (.val u, _) => u = v
  | _ => False
theorem Same1_val {u v : AV} {σ : St} : Same1 v (some (.val u, σ)) = (u = v) := rfl
def Look (M : Mac) (fr : Fr) (o : Oper) (past : List St) (K : AV → Prop) : Option (AN × St) → Prop
  | some (.val v, _) => (∀ τ ∈ past, Same1 v (aop M.T fr o τ)) ∧ K v
  | _ => False
theorem Look_val {fr : Fr} {o : Oper} {past : List St} {K : AV → Prop} {v : AV} {σ : St} : Look M fr o past K (some (.val v, σ)) = ((∀ τ ∈ past, Same1 v (aop M.T fr o τ)) ∧ K v) := rfl
def WntQ (M : Mac) (fr : Fr) (o : Oper) (σ : St) (past : List St) (K : AV → Prop) : Bool → Prop
  | true => Look M fr o past K (aop M.T fr o σ)
  | false => K (.tup [])
theorem WntQ_true {fr : Fr} {o : Oper} {σ : St} {past : List St} {K : AV → Prop} : WntQ M fr o σ past K true = Look M fr o past K (aop M.T fr o σ) := rfl
theorem WntQ_false {fr : Fr} {o : Oper} {σ : St} {past : List St} {K : AV → Prop} : WntQ M fr o σ past K false = K (.tup []) := rfl

def PlS (M : Mac) (ops : Array Oper) : List (Nat × Oper) → Fr → St → List St → (Fr → St → Prop) → Prop
  | [], fr, σ, _, Q => Q fr σ
  | p :: l, fr, σ, past, Q => match kindOf p.2 with
    | 0 => WntQ M fr p.2 σ past (fun v => ∃ fr1, fr.put p.2.dst v = some fr1 ∧ PlS M ops l fr1 σ past Q) (Region.wanted p.2 (yieldedA ops fr.tmps))
    | 2 => Wnt M fr p.2 σ (fun v σ1 => ∃ fr1, fr.put p.2.dst v = some fr1 ∧ PlS M ops l fr1 σ1 (σ :: past) Q) (Region.wanted p.2 (yieldedA ops fr.tmps))
    | _ => False
def PutQ (M : Mac) (ops : Array Oper) (dst : Option Tmp) (l : List (Nat × Oper)) (fr : Fr) (σ : St) (past : List St) (Q : Fr → St → Prop) : AV → Prop := fun v => ∃ fr1, fr.put dst v = some fr1 ∧ PlS M ops l fr1 σ past Q
def PutP (M : Mac) (ops : Array Oper) (dst : Option Tmp) (l : List (Nat × Oper)) (fr : Fr) (past : List St) (Q : Fr → St → Prop) : AV → St → Prop := fun v σ1 => ∃ fr1, fr.put dst v = some fr1 ∧ PlS M ops l fr1 σ1 past Q
def PlK (M : Mac) (ops : Array Oper) (o : Oper) (l : List (Nat × Oper)) (fr : Fr) (σ : St) (past : List St) (Q : Fr → St → Prop) : Nat → Prop
  | 0 => WntQ M fr o σ past (PutQ M ops o.dst l fr σ past Q) (Region.wanted o (yieldedA ops fr.tmps))
  | 2 => Wnt M fr o σ (PutP M ops o.dst l fr (σ :: past) Q) (Region.wanted o (yieldedA ops fr.tmps))
  | _ => False
theorem PlS_nil {ops : Array Oper} {fr : Fr} {σ : St} {past : List St} {Q : Fr → St → Prop} : PlS M ops [] fr σ past Q = Q fr σ := rfl
theorem PlS_cons {ops : Array Oper} {i : Nat} {o : Oper} {l : List (Nat × Oper)} {fr : Fr} {σ : St} {past : List St} {Q : Fr → St → Prop} : PlS M ops ((i, o) :: l) fr σ past Q = PlK M ops o l fr σ past Q (kindOf o) := by
  show (match kindOf o with | 0 => _ | 2 => _ | _ => False) = _
  unfold PlK
  rfl
theorem PlK_0 {ops : Array Oper} {o : Oper} {l : List (Nat × Oper)} {fr : Fr} {σ : St} {past : List St} {Q : Fr → St → Prop} : PlK M ops o l fr σ past Q 0 = WntQ M fr o σ past (PutQ M ops o.dst l fr σ past Q) (Region.wanted o (yieldedA ops fr.tmps)) := rfl
theorem PlK_2 {ops : Array Oper} {o : Oper} {l : List (Nat × Oper)} {fr : Fr} {σ : St} {past : List St} {Q : Fr → St → Prop} : PlK M ops o l fr σ past Q 2 = Wnt M fr o σ (PutP M ops o.dst l fr (σ :: past) Q) (Region.wanted o (yieldedA ops fr.tmps)) := rfl
theorem PutQ_some {ops : Array Oper} {l : List (Nat × Oper)} {t : Tr AV} {ds : List Nat} {n : Nat} {ro : Option Nat} {d : Nat} {Q : Fr → St → Prop} {v : AV} {σ : St} {past : List St} (h : d < n) (h' : d < 1000000000) :
    PutQ M ops (some d) l ⟨t, ds, n, ro⟩ σ past Q v = PlS M ops l ⟨t.set 40 d v, ds, n, ro⟩ σ past Q := by
  apply propext
  constructor
  · rintro ⟨fr1, h1, q⟩
    rw [fput_some h h'] at h1
    cases h1; exact q
  · intro q; exact ⟨_, fput_some h h', q⟩
theorem PutP_some {ops : Array Oper} {l : List (Nat × Oper)} {t : Tr AV} {ds : List Nat} {n : Nat} {ro : Option Nat} {d : Nat} {Q : Fr → St → Prop} {v : AV} {σ : St} {past : List St} (h : d < n) (h' : d < 1000000000) :
    PutP M ops (some d) l ⟨t, ds, n, ro⟩ past Q v σ = PlS M ops l ⟨t.set 40 d v, ds, n, ro⟩ σ past Q := by
  apply propext
  constructor
  · rintro ⟨fr1, h1, q⟩
    rw [fput_some h h'] at h1
    cases h1; exact q
  · intro q; exact ⟨_, fput_some h h', q⟩
theorem PutP_none {ops : Array Oper} {l : List (Nat × Oper)} {fr : Fr} {Q : Fr → St → Prop} {v : AV} {σ : St} {past : List St} : PutP M ops none l fr past Q v σ = PlS M ops l fr σ past Q := by
  apply propext
  constructor
  · rintro ⟨fr1, h, q⟩
    cases h; exact q
  · intro h; exact ⟨_, rfl, h⟩

theorem Ex.mono {ops : Array Oper} {o : Oper} {fr : Fr} {σ : St} {K K' : AV → St → Prop} (h : Ex M ops o fr σ K) (i : ∀ v σ, K v σ → K' v σ) : Ex M ops o fr σ K' := by
  obtain ⟨k, v, σ1, h, q⟩ := h
  exact ⟨k, v, σ1, h, i _ _ q⟩
theorem PlS.pl {ops : Array Oper} : ∀ {l : List (Nat × Oper)} {fr : Fr} {σ : St} {past : List St} {Q : Fr → St → Prop} (lv : List (Nat × Nat)), PlS M ops l fr σ past Q → Pl M ops l fr (σ :: past) lv Q
  | [], fr, σ, past, Q, lv, h => Pl.nil h
  | p :: l, fr, σ, past, Q, lv, h => by
    obtain ⟨i, o⟩ := p
    rw [PlS_cons] at h
    unfold PlK at h
    split at h
    · rename_i hk
      cases hw : Region.wanted o (yieldedA ops fr.tmps) with
      | false =>
        rw [hw] at h
        obtain ⟨fr1, hp, h⟩ := h
        exact Pl.skip hk hw hp (PlS.pl _ h)
      | true =>
        rw [hw] at h
        have h : Look M fr o past (PutQ M ops o.dst l fr σ past Q) (aop M.T fr o σ) := h
        cases ha : aop M.T fr o σ with
        | none => rw [ha] at h; exact h.elim
        | some r =>
          obtain ⟨x, σ1⟩ := r
          rw [ha] at h
          cases x with
          | val v =>
            obtain ⟨hs, fr1, hp, h⟩ := h
            refine Pl.quiet hk hw ha (fun τ hτ => ?_) hp (PlS.pl _ h)
            have := hs τ (List.mem_of_mem_take hτ)
            cases hb : aop M.T fr o τ with
            | none => rw [hb] at this; exact this.elim
            | some r =>
              obtain ⟨y, τ1⟩ := r
              rw [hb] at this
              cases y with
              | val u =>
                have this : u = v := this
                subst this
                exact ⟨τ1, rfl⟩
              | enter _ _ => exact this.elim
              | round _ _ => exact this.elim
          | enter _ _ => exact h.elim
          | round _ _ => exact h.elim
    · rename_i hk
      refine Pl.wr hk ((Ex_of h).mono fun v σ1 q => ?_)
      obtain ⟨fr1, hp, q⟩ := q
      exact ⟨fr1, hp, PlS.pl _ q⟩
    · exact h.elim
def PlFrom (M : Mac) (ops : Array Oper) (l : List (Nat × Oper)) (Q : Fr → St → Prop) : Fr → St → Prop := fun fr σ => PlS M ops l fr σ [] Q
theorem PlFrom_eq {ops : Array Oper} {l : List (Nat × Oper)} {Q : Fr → St → Prop} {fr : Fr} {σ : St} : PlFrom M ops l Q fr σ = PlS M ops l fr σ [] Q := rfl
def AlS (M : Mac) (ops : Array Oper) : List (Nat × Oper) → Fr → St → (Fr → St → Prop) → Prop
  | [], fr, σ, Q => Q fr σ
  | p :: l, fr, σ, Q => Wnt M fr p.2 σ (fun v σ1 => ∃ fr1, fr.put p.2.dst v = some fr1 ∧ AlS M ops l fr1 σ1 Q) (Region.wanted p.2 (yieldedA ops fr.tmps))
def PutA (M : Mac) (ops : Array Oper) (dst : Option Tmp) (l : List (Nat × Oper)) (fr : Fr) (Q : Fr → St → Prop) : AV → St → Prop := fun v σ1 => ∃ fr1, fr.put dst v = some fr1 ∧ AlS M ops l fr1 σ1 Q
theorem AlS_nil {ops : Array Oper} {fr : Fr} {σ : St} {Q : Fr → St → Prop} : AlS M ops [] fr σ Q = Q fr σ := rfl
theorem AlS_cons {ops : Array Oper} {i : Nat} {o : Oper} {l : List (Nat × Oper)} {fr : Fr} {σ : St} {Q : Fr → St → Prop} : AlS M ops ((i, o) :: l) fr σ Q = Wnt M fr o σ (PutA M ops o.dst l fr Q) (Region.wanted o (yieldedA ops fr.tmps)) := rfl
theorem PutA_some {ops : Array Oper} {l : List (Nat × Oper)} {t : Tr AV} {ds : List Nat} {n : Nat} {ro : Option Nat} {d : Nat} {Q : Fr → St → Prop} {v : AV} {σ : St} (h : d < n) (h' : d < 1000000000) :
    PutA M ops (some d) l ⟨t, ds, n, ro⟩ Q v σ = AlS M ops l ⟨t.set 40 d v, ds, n, ro⟩ σ Q := by
  apply propext
  constructor
  · rintro ⟨fr1, h1, q⟩
    rw [fput_some h h'] at h1
    cases h1; exact q
  · intro q; exact ⟨_, fput_some h h', q⟩
theorem AlS.al {ops : Array Oper} : ∀ {l : List (Nat × Oper)} {fr : Fr} {σ : St} {Q : Fr → St → Prop}, AlS M ops l fr σ Q → Al M ops l fr σ Q
  | [], fr, σ, Q, h => Al.nil h
  | p :: l, fr, σ, Q, h => Al.cons ((Ex_of h).mono fun v σ1 q => by
    obtain ⟨fr1, hp, q⟩ := q
    exact ⟨fr1, hp, AlS.al q⟩)
theorem Al.mono {ops : Array Oper} {l : List (Nat × Oper)} {fr : Fr} {σ : St} {Q Q' : Fr → St → Prop} (h : Al M ops l fr σ Q) (i : ∀ fr σ, Q fr σ → Q' fr σ) : Al M ops l fr σ Q' := by
  obtain ⟨k, fr', σ', h, q⟩ := h
  exact ⟨k, fr', σ', h, i _ _ q⟩
theorem Co_draw {id : Nat} {ops : Array Oper} {fr : Fr} {σ : St} {Q : Xt → Fr → St → Prop} (ai ri : List Nat) (ha : allocsOf ops = pk ops ai) (hr : restOf ops = pk ops ri) (hd : drawOk ops (pk ops ai) (pk ops ri) = true)
    (h : AlS M ops (pk ops ai) fr σ (PlFrom M ops (pk ops ri) (Q .normal))) : Co M (.region id ops true) fr σ Q :=
  Co.draw _ _ ha hr hd ((AlS.al h).mono fun _ _ q => PlS.pl [] q)

theorem mem_none {P : St → Prop} : (∀ τ ∈ ([] : List St), P τ) = True := by simp
theorem mem_cons {P : St → Prop} {σ : St} {l : List St} : (∀ τ ∈ σ :: l, P τ) = (P σ ∧ ∀ τ ∈ l, P τ) := by simp

section
variable {dst : Option Tmp} {ty : TypeId} {pos : String} {after : Array Edge} {g : Option (Nat × Bool)}
theorem kd_move {x : Operand} : kindOf ⟨dst, .move x, ty, pos, after, g⟩ = 0 := rfl
theorem kd_assign {x : Operand} : kindOf ⟨dst, .assign x, ty, pos, after, g⟩ = 0 := rfl
theorem kd_pick {x y z : Operand} : kindOf ⟨dst, .pick x y z, ty, pos, after, g⟩ = 0 := rfl
theorem kd_build {e : TypeId} {ps : Array (Nat × Operand)} : kindOf ⟨dst, .build e ps, ty, pos, after, g⟩ = 0 := rfl
theorem kd_load {e : TypeId} {x : Operand} : kindOf ⟨dst, .load e x, ty, pos, after, g⟩ = 0 := rfl
theorem kd_nil {x : Operand} : kindOf ⟨dst, .nilCheck x, ty, pos, after, g⟩ = 0 := rfl
theorem kd_bin {op : BinOp} {e u : TypeId} {x y : Operand} : kindOf ⟨dst, .binOp op e x y u, ty, pos, after, g⟩ = 0 := rfl
theorem kd_un {op : UnOp} {e : TypeId} {x : Operand} : kindOf ⟨dst, .unOp op e x, ty, pos, after, g⟩ = 0 := rfl
theorem kd_func {fn : Fn} {a b : Array Operand} : kindOf ⟨dst, .makeFunc fn a b, ty, pos, after, g⟩ = 0 := rfl
theorem kd_slice {e : TypeId} {x : Operand} {a b c : Option Operand} : kindOf ⟨dst, .slice e x a b c, ty, pos, after, g⟩ = 0 := rfl
theorem kd_fieldAddr {e : TypeId} {x : Operand} {f : Nat} : kindOf ⟨dst, .fieldAddr e x f, ty, pos, after, g⟩ = 0 := rfl
theorem kd_field {e : TypeId} {x : Operand} {f : Nat} : kindOf ⟨dst, .field e x f, ty, pos, after, g⟩ = 0 := rfl
theorem kd_indexAddr {e : TypeId} {x y : Operand} : kindOf ⟨dst, .indexAddr e x y, ty, pos, after, g⟩ = 0 := rfl
theorem kd_lookup {e : TypeId} {x y : Operand} {b : Bool} : kindOf ⟨dst, .lookup e x y b, ty, pos, after, g⟩ = 0 := rfl
theorem kd_extract {x : Operand} {f : Nat} : kindOf ⟨dst, .extract x f, ty, pos, after, g⟩ = 0 := rfl
theorem kd_len {as : Array Operand} {ts : Array TypeId} : kindOf ⟨dst, .call ⟨.builtin .len, as, ts⟩, ty, pos, after, g⟩ = 0 := rfl
theorem kd_append {as : Array Operand} {ts : Array TypeId} : kindOf ⟨dst, .call ⟨.builtin .append, as, ts⟩, ty, pos, after, g⟩ = 2 := rfl
theorem kd_clear {as : Array Operand} {ts : Array TypeId} : kindOf ⟨dst, .call ⟨.builtin .clear, as, ts⟩, ty, pos, after, g⟩ = 2 := rfl
theorem kd_call {f : Operand} {as : Array Operand} {ts : Array TypeId} : kindOf ⟨dst, .call ⟨.value f, as, ts⟩, ty, pos, after, g⟩ = 2 := rfl
theorem kd_buildSlice {e : TypeId} {n : Nat} {ps : Array (Nat × Operand)} : kindOf ⟨dst, .buildSlice e n ps, ty, pos, after, g⟩ = 2 := rfl
theorem kd_store {e : TypeId} {x y : Operand} : kindOf ⟨dst, .store e x y, ty, pos, after, g⟩ = 2 := rfl
theorem kd_update {e : TypeId} {x y z : Operand} : kindOf ⟨dst, .mapUpdate e x y z, ty, pos, after, g⟩ = 2 := rfl
theorem kd_makeMap {e : TypeId} {r : Option Operand} : kindOf ⟨dst, .makeMap e r, ty, pos, after, g⟩ = 2 := rfl
theorem kd_box {e : TypeId} {x : Operand} : kindOf ⟨dst, .box e x, ty, pos, after, g⟩ = 2 := rfl
end
end Go.Ab
