/- Rules of walks as equations: what simp steps by. -/
import Derived.Test.YtmchghdmejbblaaGreatDoorBc
set_option linter.unusedSimpArgs false
set_option linter.unusedVariables false
noncomputable section
namespace Go.Ab
variable {M : Mac}

theorem code_zero {c : Code} {fr : Fr} {σ : St} {r : Xt × Fr × St} (h : (M.ev 0).code c fr σ = some r) : False := by
  have h : (bad "no fuel" : CR) = some r := h
  simp [bad] at h

theorem Co_skip {fr : Fr} {σ : St} {Q : Xt → Fr → St → Prop} : Co M .skip fr σ Q = Q .normal fr σ := by
  apply propext
  constructor
  · rintro ⟨k, x, fr', σ', h, q⟩
    cases k with
    | zero => exact (code_zero h).elim
    | succ k => have h : (some (.normal, fr, σ) : CR) = some (x, fr', σ') := h; cases h; exact q
  · exact Co.skip
theorem Co_ret {fr : Fr} {σ : St} {Q : Xt → Fr → St → Prop} : Co M .ret fr σ Q = Q .ret fr σ := by
  apply propext
  constructor
  · rintro ⟨k, x, fr', σ', h, q⟩
    cases k with
    | zero => exact (code_zero h).elim
    | succ k => have h : (some (.ret, fr, σ) : CR) = some (x, fr', σ') := h; cases h; exact q
  · exact Co.ret
theorem Co_exit {id : Nat} {fr : Fr} {σ : St} {Q : Xt → Fr → St → Prop} : Co M (.exit id) fr σ Q = Q (.exit id) fr σ := by
  apply propext
  constructor
  · rintro ⟨k, x, fr', σ', h, q⟩
    cases k with
    | zero => exact (code_zero h).elim
    | succ k => have h : (some (.exit id, fr, σ) : CR) = some (x, fr', σ') := h; cases h; exact q
  · exact Co.exit
theorem Co_seq {a b : Code} {fr : Fr} {σ : St} {Q : Xt → Fr → St → Prop} : Co M (.seq a b) fr σ Q = Co M a fr σ (Then M b Q) := by
  apply propext
  constructor
  · rintro ⟨k, x, fr', σ', h, q⟩
    cases k with
    | zero => exact (code_zero h).elim
    | succ k =>
      have h : thenC (fun fr σ => (M.ev k).code b fr σ) ((M.ev k).code a fr σ) = some (x, fr', σ') := h
      rcases thenC_cases h with ⟨fr1, σ1, h1, h2⟩ | ⟨h1, hne⟩
      · exact ⟨k, .normal, fr1, σ1, h1, k, x, fr', σ', h2, q⟩
      · refine ⟨k, x, fr', σ', h1, ?_⟩
        cases x with
        | normal => exact absurd rfl hne
        | exit _ => exact q
        | ret => exact q
  · exact Co.seq
theorem Then_normal {b : Code} {Q : Xt → Fr → St → Prop} {fr : Fr} {σ : St} : Then M b Q .normal fr σ = Co M b fr σ Q := rfl
theorem Then_exit {b : Code} {Q : Xt → Fr → St → Prop} {id : Nat} {fr : Fr} {σ : St} : Then M b Q (.exit id) fr σ = Q (.exit id) fr σ := rfl
theorem Then_ret {b : Code} {Q : Xt → Fr → St → Prop} {fr : Fr} {σ : St} : Then M b Q .ret fr σ = Q .ret fr σ := rfl

def CondK (M : Mac) (a b : Code) (fr : Fr) (σ : St) (Q : Xt → Fr → St → Prop) : Option AV → Prop
  | some (.bool t) => Co M (branch a b t) fr σ Q
  | _ => False
theorem Co_cond {c : Operand} {a b : Code} {fr : Fr} {σ : St} {Q : Xt → Fr → St → Prop} : Co M (.cond c a b) fr σ Q = CondK M a b fr σ Q (evO fr c) := by
  apply propext
  constructor
  · rintro ⟨k, x, fr', σ', h, q⟩
    cases k with
    | zero => exact (code_zero h).elim
    | succ k =>
      have h : condC (fun t => (M.ev k).code (branch a b t) fr σ) (evO fr c) = some (x, fr', σ') := h
      cases ho : evO fr c with
      | none => rw [ho] at h; simp [condC, bad] at h
      | some v =>
        rw [ho] at h
        cases v <;> first | exact ⟨k, x, fr', σ', h, q⟩ | (simp [condC, bad] at h)
  · intro h
    cases ho : evO fr c with
    | none => rw [ho] at h; exact h.elim
    | some v =>
      rw [ho] at h
      cases v <;> first | exact Co.cond _ ho h | exact h.elim
theorem CondK_bool {a b : Code} {fr : Fr} {σ : St} {Q : Xt → Fr → St → Prop} {t : Bool} : CondK M a b fr σ Q (some (.bool t)) = Co M (branch a b t) fr σ Q := rfl
theorem branch_true {a b : Code} : branch a b true = a := rfl
theorem branch_false {a b : Code} : branch a b false = b := rfl

theorem Co_block {id : Nat} {b : Code} {fr : Fr} {σ : St} {Q : Xt → Fr → St → Prop} : Co M (.block id b) fr σ Q = Co M b fr σ (Blk id Q) := by
  apply propext
  constructor
  · rintro ⟨k, x, fr', σ', h, q⟩
    cases k with
    | zero => exact (code_zero h).elim
    | succ k =>
      have h : blockC id ((M.ev k).code b fr σ) = some (x, fr', σ') := h
      unfold blockC at h
      split at h
      · rename_i j fr1 σ1 hc
        split at h
        · rename_i hj
          cases h
          refine ⟨k, .exit j, fr', σ', hc, ?_⟩
          show (if j = id then Q .normal fr' σ' else Q (.exit j) fr' σ')
          rw [if_pos (Nat.eq_of_beq_eq_true hj)]
          exact q
        · rename_i hj
          cases h
          refine ⟨k, .exit j, fr', σ', hc, ?_⟩
          show (if j = id then Q .normal fr' σ' else Q (.exit j) fr' σ')
          rw [if_neg (fun e => by rw [beq_yes e] at hj; cases hj)]
          exact q
      · rename_i hne
        refine ⟨k, x, fr', σ', h, ?_⟩
        cases x with
        | normal => exact q
        | ret => exact q
        | exit j => exact absurd h (hne j fr' σ')
  · exact Co.block
theorem Blk_normal {id : Nat} {Q : Xt → Fr → St → Prop} {fr : Fr} {σ : St} : Blk id Q .normal fr σ = Q .normal fr σ := rfl
theorem Blk_ret {id : Nat} {Q : Xt → Fr → St → Prop} {fr : Fr} {σ : St} : Blk id Q .ret fr σ = Q .ret fr σ := rfl
theorem Blk_exit {id j : Nat} {Q : Xt → Fr → St → Prop} {fr : Fr} {σ : St} : Blk id Q (.exit j) fr σ = if j = id then Q .normal fr σ else Q (.exit j) fr σ := rfl

theorem Co_region {id : Nat} {ops : Array Oper} {fr : Fr} {σ : St} {Q : Xt → Fr → St → Prop} : Co M (.region id ops false) fr σ Q = Os M ops ops.toList fr σ (Q .normal) := by
  apply propext
  constructor
  · rintro ⟨k, x, fr', σ', h, q⟩
    cases k with
    | zero => exact (code_zero h).elim
    | succ k =>
      have h : normalC (evList M.T (M.ev k) ops ops.toList fr σ) = some (x, fr', σ') := h
      unfold normalC at h
      split at h
      · rename_i fr1 σ1 hl; cases h; exact ⟨k, _, _, hl, q⟩
      · cases h
  · exact Co.region

/-- A loop: the round's continuation is any that lets the relation, with a count that is less, through. -/
theorem Co_loop {b : Code} {fr : Fr} {σ : St} {Q : Xt → Fr → St → Prop} (I : Nat → Fr → St → Prop) (n : Nat) (h0 : I n fr σ)
    (h : ∀ n fr σ K, I n fr σ → (∀ m fr σ, m < n → I m fr σ → K .normal fr σ) → (∀ id fr σ, K (.exit id) fr σ = Q (.exit id) fr σ) → (∀ fr σ, K .ret fr σ = Q .ret fr σ) → Co M b fr σ K) : Co M (.loop b) fr σ Q :=
  Co.loop I (fun n fr σ hI => h n fr σ _ hI (fun m fr σ hm hI => ⟨m, hm, hI⟩) (fun _ _ _ => rfl) (fun _ _ => rfl)) n fr σ h0

/-! ### Operations -/
def Put (M : Mac) (ops : Array Oper) (dst : Option Tmp) (l : List Oper) (fr : Fr) (Q : Fr → St → Prop) : AV → St → Prop := fun v σ => ∃ fr1, fr.put dst v = some fr1 ∧ Os M ops l fr1 σ Q
def Stp (M : Mac) (K : AV → St → Prop) : Option (AN × St) → Prop
  | some (.val v, σ) => K v σ
  | some (.enter f args, σ) => Ca M f args σ K
  | some (.round l args, σ) => Rn M l args σ K
  | none => False
def Wnt (M : Mac) (fr : Fr) (o : Oper) (σ : St) (K : AV → St → Prop) : Bool → Prop
  | true => Stp M K (aop M.T fr o σ)
  | false => K (.tup []) σ
theorem Ex_of {ops : Array Oper} {o : Oper} {fr : Fr} {σ : St} {K : AV → St → Prop} (h : Wnt M fr o σ K (Region.wanted o (yieldedA ops fr.tmps))) : Ex M ops o fr σ K := by
  cases hw : Region.wanted o (yieldedA ops fr.tmps) with
  | false => rw [hw] at h; exact Ex.skip hw h
  | true =>
    rw [hw] at h
    have h : Stp M K (aop M.T fr o σ) := h
    cases ha : aop M.T fr o σ with
    | none => rw [ha] at h; exact h.elim
    | some r =>
      obtain ⟨x, σ1⟩ := r
      rw [ha] at h
      cases x with
      | val v => exact Ex.val hw ha h
      | enter f args => exact Ex.call hw ha h
      | round l args => exact Ex.round hw ha h
theorem of_Ex {ops : Array Oper} {o : Oper} {fr : Fr} {σ : St} {K : AV → St → Prop} (h : Ex M ops o fr σ K) : Wnt M fr o σ K (Region.wanted o (yieldedA ops fr.tmps)) := by
  obtain ⟨k, v, σ1, h, q⟩ := h
  unfold exec1 at h
  cases hw : Region.wanted o (yieldedA ops fr.tmps) with
  | false => rw [hw] at h; cases h; exact q
  | true =>
    rw [hw] at h
    have h : follow (M.ev k) (aop M.T fr o σ) = some (v, σ1) := h
    show Stp M K (aop M.T fr o σ)
    cases ha : aop M.T fr o σ with
    | none => rw [ha] at h; cases h
    | some r =>
      obtain ⟨x, σ2⟩ := r
      rw [ha] at h
      cases x with
      | val u =>
        have h : some (u, σ2) = some (v, σ1) := h
        cases h; exact q
      | enter f args => exact ⟨k, v, σ1, h, q⟩
      | round l args => exact ⟨k, v, σ1, h, q⟩
theorem Os_cons {ops : Array Oper} {o : Oper} {l : List Oper} {fr : Fr} {σ : St} {Q : Fr → St → Prop} :
    Os M ops (o :: l) fr σ Q = Wnt M fr o σ (Put M ops o.dst l fr Q) (Region.wanted o (yieldedA ops fr.tmps)) := by
  apply propext
  constructor
  · rintro ⟨k, fr', σ', h, q⟩
    simp only [evList] at h
    split at h
    · rename_i v σ1 h1
      split at h
      · rename_i fr1 hp
        exact of_Ex ⟨k, v, σ1, h1, fr1, hp, k, fr', σ', h, q⟩
      · cases h
    · cases h
  · intro h
    exact Os.cons (Ex_of h)
theorem Os_nil {ops : Array Oper} {fr : Fr} {σ : St} {Q : Fr → St → Prop} : Os M ops [] fr σ Q = Q fr σ := by
  apply propext
  constructor
  · rintro ⟨k, fr', σ', h, q⟩
    cases h; exact q
  · exact Os.nil
theorem Wnt_true {fr : Fr} {o : Oper} {σ : St} {K : AV → St → Prop} : Wnt M fr o σ K true = Stp M K (aop M.T fr o σ) := rfl
theorem Wnt_false {fr : Fr} {o : Oper} {σ : St} {K : AV → St → Prop} : Wnt M fr o σ K false = K (.tup []) σ := rfl
theorem Stp_val {K : AV → St → Prop} {v : AV} {σ : St} : Stp M K (some (.val v, σ)) = K v σ := rfl
theorem Stp_enter {K : AV → St → Prop} {f : FuncId} {args : List AV} {σ : St} : Stp M K (some (.enter f args, σ)) = Ca M f args σ K := rfl
theorem Put_none {ops : Array Oper} {l : List Oper} {fr : Fr} {Q : Fr → St → Prop} {v : AV} {σ : St} : Put M ops none l fr Q v σ = Os M ops l fr σ Q := by
  apply propext
  constructor
  · rintro ⟨fr1, h, q⟩
    cases h; exact q
  · intro h; exact ⟨_, rfl, h⟩
theorem fput_some {t : Tr AV} {ds : List Nat} {n : Nat} {ro : Option Nat} {d : Nat} {v : AV} (h : d < n) (h' : d < 1000000000) : (Fr.mk t ds n ro).put (some d) v = some ⟨t.set 40 d v, ds, n, ro⟩ := by
  unfold Fr.put
  have h1 : Nat.blt d n = true := by simpa using h
  have h2 : Nat.blt d lim = true := by simpa [lim] using h'
  simp only [h1, h2]
theorem Put_some {ops : Array Oper} {l : List Oper} {t : Tr AV} {ds : List Nat} {n : Nat} {ro : Option Nat} {d : Nat} {Q : Fr → St → Prop} {v : AV} {σ : St} (h : d < n) (h' : d < 1000000000) :
    Put M ops (some d) l ⟨t, ds, n, ro⟩ Q v σ = Os M ops l ⟨t.set 40 d v, ds, n, ro⟩ σ Q := by
  apply propext
  constructor
  · rintro ⟨fr1, h1, q⟩
    rw [fput_some h h'] at h1
    cases h1; exact q
  · intro q; exact ⟨_, fput_some h h', q⟩
theorem gt_set {t : Tr AV} {d e : Nat} {v : AV} (h : d < 1000000000) : getT (t.set 40 d v) e = if e = d then v else getT t e := getT_set t d e v h
theorem gt_here {t : Tr AV} {d : Nat} {v : AV} (h : d < 1000000000) : getT (t.set 40 d v) d = v := by rw [getT_set t d d v h, if_pos rfl]
theorem wanted_none {dst : Option Tmp} {op : Op} {ty : TypeId} {pos : String} {after : Array Edge} {y : Nat → Option Bool} : Region.wanted ⟨dst, op, ty, pos, after, none⟩ y = true := rfl
theorem wanted_some {dst : Option Tmp} {op : Op} {ty : TypeId} {pos : String} {after : Array Edge} {j : Nat} {b : Bool} {y : Nat → Option Bool} : Region.wanted ⟨dst, op, ty, pos, after, some (j, b)⟩ y = (y j == some b) := rfl
theorem yielded_of {ops : Array Oper} {t : Tr AV} {j d : Nat} {op : Op} {ty : TypeId} {pos : String} {after : Array Edge} {g : Option (Nat × Bool)} {b : Bool} (h : ops[j]? = some ⟨some d, op, ty, pos, after, g⟩) (hb : getT t d = .bool b) : yieldedA ops t j = some b := by
  unfold yieldedA
  rw [h]
  simp only [Option.bind_some, hb]
def yl (v : AV) : Option Bool := match v with | .bool b => some b | _ => none
theorem yl_bool {b : Bool} : yl (.bool b) = some b := rfl
def yd (t : Tr AV) : Option Oper → Option Bool
  | some o => match o.dst with | some d => yl (getT t d) | none => none
  | none => none
theorem yd_some {t : Tr AV} {d : Nat} {op : Op} {ty : TypeId} {pos : String} {after : Array Edge} {g : Option (Nat × Bool)} : yd t (some ⟨some d, op, ty, pos, after, g⟩) = yl (getT t d) := rfl
theorem yielded_eq {ops : Array Oper} {t : Tr AV} {j : Nat} : yieldedA ops t j = yd t ops[j]? := by
  unfold yieldedA yd yl
  cases ops[j]? with
  | none => rfl
  | some o => cases h : o.dst <;> simp [h] <;> rfl

/-! ### One operation -/
section
variable {P : Tb} {t : Tr AV} {ds : List Nat} {n : Nat} {ro : Option Nat} {dst : Option Tmp} {ty : TypeId} {pos : String} {after : Array Edge} {g : Option (Nat × Bool)} {σ : St} {fr : Fr}
theorem evO_tmp {d : Nat} : evO ⟨t, ds, n, ro⟩ (.tmp d) = some (getT t d) := rfl
theorem evO_int {k : IntKind} {i : Int} : evO fr (.const (.int k i)) = some (.int k i) := rfl
theorem evO_bool {b : Bool} : evO fr (.const (.bool b)) = some (.bool b) := rfl
theorem evO_str {s : ByteArray} : evO fr (.const (.string s)) = some (.str s) := rfl
theorem evO_nils : evO fr (.const (.slice none 0 0)) = some .nils := rfl
theorem evO_nilp : evO fr (.const (.pointer none)) = some .nilp := rfl
theorem evO_func {f : FuncId} : evO fr (.func f) = some (.fn f [] []) := rfl
theorem evOs_nil : evOs fr [] = some [] := rfl
def cons? (a : Option AV) (b : Option (List AV)) : Option (List AV) := match a, b with | some v, some vs => some (v :: vs) | _, _ => none
theorem evOs_cons {x : Operand} {xs : List Operand} : evOs fr (x :: xs) = cons? (evO fr x) (evOs fr xs) := rfl
theorem cons?_some {v : AV} {vs : List AV} : cons? (some v) (some vs) = some (v :: vs) := rfl
theorem one1_eq {x : Operand} {k : AV → Option (AN × St)} : one1 fr x k = match evO fr x with | some v => k v | none => none := rfl
theorem one1_tmp {d : Nat} {k : AV → Option (AN × St)} : one1 ⟨t, ds, n, ro⟩ (.tmp d) k = k (getT t d) := rfl
theorem one1_int {kd : IntKind} {i : Int} {k : AV → Option (AN × St)} : one1 fr (.const (.int kd i)) k = k (.int kd i) := rfl
theorem one1_bool {b : Bool} {k : AV → Option (AN × St)} : one1 fr (.const (.bool b)) k = k (.bool b) := rfl
theorem one1_str {s : ByteArray} {k : AV → Option (AN × St)} : one1 fr (.const (.string s)) k = k (.str s) := rfl
theorem one1_nils {k : AV → Option (AN × St)} : one1 fr (.const (.slice none 0 0)) k = k .nils := rfl
theorem one1_nilp {k : AV → Option (AN × St)} : one1 fr (.const (.pointer none)) k = k .nilp := rfl
theorem val1_some {v : AV} : val1 σ (some v) = some (.val v, σ) := rfl
theorem val2_some {v : AV} : val2 (some (v, σ)) = some (.val v, σ) := rfl
theorem unit1_some : unit1 (some σ) = some (.val (.tup []), σ) := rfl
theorem aop_move {x : Operand} : aop P fr ⟨dst, .move x, ty, pos, after, g⟩ σ = val1 σ (evO fr x) := rfl
theorem aop_assign {x : Operand} : aop P fr ⟨dst, .assign x, ty, pos, after, g⟩ σ = val1 σ (evO fr x) := rfl
theorem aop_pick {c a b : Operand} : aop P fr ⟨dst, .pick c a b, ty, pos, after, g⟩ σ = one1 fr c fun c => one1 fr a fun a => one1 fr b fun b => opPick a b σ c := rfl
theorem opPick_true {a b : AV} : opPick a b σ (.bool true) = some (.val a, σ) := rfl
theorem opPick_false {a b : AV} : opPick a b σ (.bool false) = some (.val b, σ) := rfl
theorem aop_alloc {e : TypeId} : aop P fr ⟨dst, .alloc e, ty, pos, after, g⟩ σ = opAlloc P e σ := rfl
theorem aop_box {e : TypeId} {x : Operand} : aop P fr ⟨dst, .box e x, ty, pos, after, g⟩ σ = one1 fr x fun v => opNew v.cells σ := rfl
theorem aop_build {e : TypeId} {parts : Array (Nat × Operand)} : aop P fr ⟨dst, .build e parts, ty, pos, after, g⟩ σ = opBuild P e σ (evParts fr parts.toList) := rfl
theorem aop_buildSlice {e : TypeId} {len : Nat} {parts : Array (Nat × Operand)} : aop P fr ⟨dst, .buildSlice e len parts, ty, pos, after, g⟩ σ = opBuildSlice P e len σ (evParts fr parts.toList) := rfl
theorem aop_load {e : TypeId} {x : Operand} : aop P fr ⟨dst, .load e x, ty, pos, after, g⟩ σ = one1 fr x fun v => val1 σ (loadA P e v σ) := rfl
theorem aop_store {e : TypeId} {a x : Operand} : aop P fr ⟨dst, .store e a x, ty, pos, after, g⟩ σ = one1 fr a fun v => one1 fr x fun x => unit1 (storeA P e v x σ) := rfl
theorem aop_nil {x : Operand} : aop P fr ⟨dst, .nilCheck x, ty, pos, after, g⟩ σ = one1 fr x fun v => opNil σ v := rfl
theorem aop_bin {op : BinOp} {e u : TypeId} {x y : Operand} : aop P fr ⟨dst, .binOp op e x y u, ty, pos, after, g⟩ σ = one1 fr x fun x => one1 fr y fun y => val1 σ (binA P op e x y) := rfl
theorem aop_not {e : TypeId} {x : Operand} : aop P fr ⟨dst, .unOp .not e x, ty, pos, after, g⟩ σ = one1 fr x fun x => opNot σ x := rfl
theorem opNot_bool {b : Bool} : opNot σ (.bool b) = some (.val (.bool !b), σ) := rfl
theorem aop_func {f : FuncId} {a b : Array Operand} : aop P fr ⟨dst, .makeFunc (.func f) a b, ty, pos, after, g⟩ σ = opFunc f σ (evOs fr a.toList) (evOs fr b.toList) := rfl
theorem opFunc_some {f : FuncId} {a b : List AV} : opFunc f σ (some a) (some b) = some (.val (.fn f a b), σ) := rfl
theorem aop_makeMap {e : TypeId} : aop P fr ⟨dst, .makeMap e none, ty, pos, after, g⟩ σ = opMakeMap σ := rfl
theorem aop_slice {e : TypeId} {x : Operand} {lo hi mx : Option Operand} : aop P fr ⟨dst, .slice e x lo hi mx, ty, pos, after, g⟩ σ = one1 fr x fun x => opSlice P e x σ (evM fr lo) (evM fr hi) (evM fr mx) := rfl
theorem evM_none : evM fr none = some none := rfl
def some? : Option AV → Option (Option AV)
  | some v => some (some v)
  | none => none
theorem evM_some {x : Operand} : evM fr (some x) = some? (evO fr x) := rfl
theorem some?_some {v : AV} : some? (some v) = some (some v) := rfl
theorem opSlice_some {e : TypeId} {x : AV} {lo hi mx : Option AV} : opSlice P e x σ (some lo) (some hi) (some mx) = val1 σ (sliceA P e x lo hi mx) := rfl
theorem aop_fieldAddr {e : TypeId} {x : Operand} {f : Nat} : aop P fr ⟨dst, .fieldAddr e x f, ty, pos, after, g⟩ σ = one1 fr x fun v => val1 σ (fieldAddrA P e v f) := rfl
theorem aop_field {e : TypeId} {x : Operand} {f : Nat} : aop P fr ⟨dst, .field e x f, ty, pos, after, g⟩ σ = one1 fr x fun v => val1 σ (fieldA P e v f) := rfl
theorem aop_indexAddr {e : TypeId} {x i : Operand} : aop P fr ⟨dst, .indexAddr e x i, ty, pos, after, g⟩ σ = one1 fr x fun x => one1 fr i fun i => val1 σ (indexAddrA P e x i σ) := rfl
theorem aop_lookup {e : TypeId} {x k : Operand} {ok : Bool} : aop P fr ⟨dst, .lookup e x k ok, ty, pos, after, g⟩ σ = one1 fr x fun x => one1 fr k fun k => val1 σ (lookupA P e x k ok σ) := rfl
theorem aop_update {e : TypeId} {m k x : Operand} : aop P fr ⟨dst, .mapUpdate e m k x, ty, pos, after, g⟩ σ = one1 fr m fun m => one1 fr k fun k => one1 fr x fun x => unit1 (updateA P e m k x σ) := rfl
theorem aop_extract {x : Operand} {i : Nat} : aop P fr ⟨dst, .extract x i, ty, pos, after, g⟩ σ = one1 fr x fun x => opExtract i σ x := rfl
theorem opExtract_tup {vs : List AV} {i : Nat} : opExtract i σ (.tup vs) = val1 σ vs[i]? := rfl
theorem aop_call {c : Call} : aop P fr ⟨dst, .call c, ty, pos, after, g⟩ σ = opCall P fr c σ := rfl
def callK (P : Tb) (fr : Fr) (c : Call) (σ : St) (cal : Callee) : Option (List AV) → Option (AN × St)
  | some args => opCallee P fr c σ args cal
  | none => none
theorem opCall_eq {cal : Callee} {args : Array Operand} {ts : Array TypeId} : opCall P fr ⟨cal, args, ts⟩ σ = callK P fr ⟨cal, args, ts⟩ σ cal (evOs fr args.toList) := rfl
theorem callK_some {c : Call} {cal : Callee} {args : List AV} : callK P fr c σ cal (some args) = opCallee P fr c σ args cal := rfl
theorem callee_func {c : Call} {args : List AV} {f : FuncId} : opCallee P fr c σ args (.value (.func f)) = some (.enter f args, σ) := by
  show (match callArgs (.fn f [] []) args with | some n => some (n, σ) | none => none) = _
  simp [callArgs]
theorem callee_tmp {c : Call} {args : List AV} {d : Nat} : opCallee P ⟨t, ds, n, ro⟩ c σ args (.value (.tmp d)) = (callArgs (getT t d) args).map fun n => (n, σ) := by
  show (match callArgs (getT t d) args with | some n => some (n, σ) | none => none) = _
  cases callArgs (getT t d) args <;> rfl
theorem callArgs_fn {f : FuncId} {a b args : List AV} : callArgs (.fn f a b) args = some (.enter f (a ++ args ++ b)) := rfl
theorem callee_len {cal : Callee} {as : Array Operand} {ts : Array TypeId} {args : List AV} : opCallee P fr ⟨cal, as, ts⟩ σ args (.builtin .len) = val1 σ (lenA P ts.toList args σ) := rfl
theorem callee_append {cal : Callee} {as : Array Operand} {ts : Array TypeId} {args : List AV} : opCallee P fr ⟨cal, as, ts⟩ σ args (.builtin .append) = val2 (appendA P ts.toList args σ) := rfl
theorem callee_clear {cal : Callee} {as : Array Operand} {ts : Array TypeId} {args : List AV} : opCallee P fr ⟨cal, as, ts⟩ σ args (.builtin .clear) = unit1 (clearA P ts.toList args σ) := rfl
theorem callee_copy {cal : Callee} {as : Array Operand} {ts : Array TypeId} {args : List AV} : opCallee P fr ⟨cal, as, ts⟩ σ args (.builtin .copy) = val2 (copyA P ts.toList args σ) := rfl

theorem bin_add {e : TypeId} {k : IntKind} {a b : Int} : binA P .add e (.int k a) (.int k b) = some (.int k (k.wrap (a + b))) := by
  show sameKind k k (mkInt k _) = _; simp [sameKind, mkInt_eq]
theorem bin_sub {e : TypeId} {k : IntKind} {a b : Int} : binA P .sub e (.int k a) (.int k b) = some (.int k (k.wrap (a - b))) := by
  show sameKind k k (mkInt k _) = _; simp [sameKind, mkInt_eq]
theorem bin_lss {e : TypeId} {k : IntKind} {a b : Int} : binA P .lss e (.int k a) (.int k b) = some (.bool (decide (a < b))) := by
  show sameKind k k _ = _; simp [sameKind]
theorem bin_leq {e : TypeId} {k : IntKind} {a b : Int} : binA P .leq e (.int k a) (.int k b) = some (.bool (decide (a ≤ b))) := by
  show sameKind k k _ = _; simp [sameKind]
theorem bin_gtr {e : TypeId} {k : IntKind} {a b : Int} : binA P .gtr e (.int k a) (.int k b) = some (.bool (decide (b < a))) := by
  show sameKind k k _ = _; simp [sameKind]
theorem bin_geq {e : TypeId} {k : IntKind} {a b : Int} : binA P .geq e (.int k a) (.int k b) = some (.bool (decide (b ≤ a))) := by
  show sameKind k k _ = _; simp [sameKind]
theorem bin_eql {e : TypeId} {k : IntKind} {a b : Int} : binA P .eql e (.int k a) (.int k b) = some (.bool (decide (a = b))) := by
  show sameKind k k (.bool (decide (a = b))) = _
  simp [sameKind]
theorem bin_neq {e : TypeId} {k : IntKind} {a b : Int} : binA P .neq e (.int k a) (.int k b) = some (.bool !(decide (a = b))) := by
  show sameKind k k (.bool !(decide (a = b))) = _
  simp [sameKind]
theorem bin_bool_eql {e : TypeId} {a b : Bool} (hg : eqgA P e = false) (hu : und P e = some .bool) : binA P .eql e (.bool a) (.bool b) = some (.bool (a == b)) := by
  show otherBin P .eql e (.bool a) (.bool b) = _
  simp [otherBin, hg, eqA, hu, eqLeaf]
theorem bin_bool_neq {e : TypeId} {a b : Bool} (hg : eqgA P e = false) (hu : und P e = some .bool) : binA P .neq e (.bool a) (.bool b) = some (.bool !(a == b)) := by
  show otherBin P .neq e (.bool a) (.bool b) = _
  simp [otherBin, hg, eqA, hu, eqLeaf]
end

/-! ### Stores, explicitly -/
def St.add (σ : St) (o : AObj) : St := ⟨σ.objs.set (σ.next + 1) σ.next o, σ.next + 1⟩
theorem new_add {σ : St} {o : AObj} : σ.new o = some (σ.next, σ.add o) := rfl
theorem get_add {σ : St} {o : AObj} {m : Nat} : (σ.add o).get m = if m = σ.next then some o else σ.get m := get_setS σ.objs σ.next m o
theorem next_add {σ : St} {o : AObj} : (σ.add o).next = σ.next + 1 := rfl
theorem get_put {σ : St} {o : AObj} {id m : Nat} : (σ.put id o).get m = if m = id then some o else σ.get m := St.get_put σ id m o
theorem next_put {σ : St} {o : AObj} {id : Nat} : (σ.put id o).next = σ.next := rfl
theorem opNew_eq {cells : List AV} {σ : St} (h : cells.all AV.one = true) : opNew cells σ = some (.val (.ptr σ.next 0 0), σ.add (.arr 0 cells)) := by
  unfold opNew newArr
  rw [h]
  rfl
theorem cellsAt_of {σ : St} {id ver : Nat} {cells : List AV} (h : σ.get id = some (.arr ver cells)) : cellsAt σ id ver = some cells := by
  unfold cellsAt
  rw [h]
  simp [liveA]
theorem cellsAt_add_new {σ : St} {ver : Nat} {cells : List AV} : cellsAt (σ.add (.arr ver cells)) σ.next ver = some cells := cellsAt_of (by rw [get_add, if_pos rfl])
theorem cellsAt_add_old {σ : St} {o : AObj} {id ver : Nat} (h : id ≠ σ.next) : cellsAt (σ.add o) id ver = cellsAt σ id ver := by unfold cellsAt; rw [get_add, if_neg h]
theorem one_bool {b : Bool} : AV.one (.bool b) = true := rfl
theorem one_int {k : IntKind} {i : Int} : AV.one (.int k i) = true := rfl
theorem one_str {s : ByteArray} : AV.one (.str s) = true := rfl
theorem one_nils : AV.one .nils = true := rfl
theorem Gro.add (σ : St) (o : AObj) : Gro σ (σ.add o) := ⟨by rw [next_add]; omega, fun id h => by rw [get_add, if_neg (Nat.ne_of_lt h)]⟩
theorem Gro.put {σ : St} (o : AObj) {id b : Nat} (h : b ≤ id) : ∀ i, i < b → (σ.put id o).get i = σ.get i := fun i hi => by rw [get_put, if_neg (by omega)]
end Go.Ab
