/- Regions that draw their order: the induction over what is listed. -/
import Derived.Test.YtmchghdmejbblaaGreatDoorAj
set_option linter.unusedSimpArgs false
set_option linter.unusedVariables false
namespace Go.Ab

/-- What the plan shows, once and for all. -/
structure PlanOk (P : Program) (T : Tb) (e : Ev) (ops : Array Oper) (σs : Nat → St) (σ0 : St) (al rs : List It) (fr0 fr1 fr' : Fr) (K' : Nat) : Prop where
  io : ∀ m ∈ al ++ rs, ops[m.i]? = some m.o
  cov : ∀ j, j < ops.size → ∃ m ∈ al ++ rs, m.i = j
  edge : ∀ j o, ops[j]? = some o → ∀ e' ∈ o.after.toList, Region.binds .any e' = true → e'.on < j
  pw : (al ++ rs).Pairwise fun a b => pairOk ops a.io b.io = true
  held : heldTo (rs.map It.io) = true
  puts : Puts al fr0 fr1
  run : PlanRun T e ops σs rs 0 fr1 K' fr'
  lo : ∀ m ∈ rs, kindOf m.o = 0 → LoOk rs m
  ids : ∀ a ∈ al, ∀ b ∈ al, a.lo = b.lo → a.i = b.i
  idn : ∀ a ∈ al, σ0.next ≤ a.lo

/-- What holds when those of 'listed' are done. -/
structure DInv (T : Tb) (ops : Array Oper) (σs : Nat → St) (σ0 : St) (al rs : List It) (fr0 : Fr) (K' : Nat) (ok : Nat → Prop) (C0 : Cx) (w0 : World) (listed : Array Bool) (C : Cx) (a : Act) (w : World) (k : Nat) (fr : Fr) : Prop where
  size : listed.size = ops.size
  hk : k ≤ K'
  nx : Nx ok C0 σ0 w0 C (σs k) w
  agree : Agree (al ++ rs) (fun j => listed.getD j false) fr0 fr
  fr : FR C fr a
  down : ∀ j o, ops[j]? = some o → listed.getD j false = true → ∀ e ∈ o.after.toList, Region.binds .any e = true → listed.getD e.on false = true
  louds : ∀ m ∈ rs, loud m.o = true → (listed.getD m.i false = true ↔ m.hi < k)
  los : ∀ m ∈ rs, kindOf m.o = 0 → listed.getD m.i false = true → m.lo ≤ k
  un : ∀ m ∈ al, listed.getD m.i false = false → C.cur m.lo = none ∧ NewAt T (σs k) m

theorem getD_listed {listed : Array Bool} {i : Nat} (h : listed.getD i true = false) : i < listed.size ∧ listed.getD i false = false := by
  rw [Array.getD_eq_getD_getElem?] at h ⊢
  cases hg : listed[i]? with
  | none => rw [hg] at h; cases h
  | some b =>
    rw [hg] at h
    simp only [Option.getD_some] at h ⊢
    exact ⟨(Array.getElem?_eq_some_iff.1 hg).1, h⟩
theorem getD_unlisted {listed : Array Bool} {i : Nat} (h1 : i < listed.size) (h : listed.getD i false = false) : listed.getD i true = false := by
  rw [Array.getD_eq_getD_getElem?] at h ⊢
  rw [Array.getElem?_eq_getElem h1] at h ⊢
  exact h
theorem getD_setl {listed : Array Bool} {i : Nat} (h : i < listed.size) (j : Nat) : (listed.setIfInBounds i true).getD j false = (listed.getD j false || j == i) := by
  rw [Array.getD_eq_getD_getElem?, Array.getD_eq_getD_getElem?, Array.getElem?_setIfInBounds]
  by_cases e : i = j
  · subst e
    rw [if_pos rfl, if_pos h]
    simp
  · rw [if_neg e]
    have : (j == i) = false := by simpa using fun h => e h.symm
    simp [this]

theorem Puts.can : ∀ {l : List It} {fr fr' : Fr}, Puts l fr fr' → ∀ m ∈ l, ∀ frx : Fr, frx.n = fr.n → ∃ fr2, frx.put m.o.dst m.v = some fr2
  | [], _, _, _, _, h, _, _ => by cases h
  | m0 :: l, fr, fr', h, m, hm, frx, hn => by
    obtain ⟨fr1, hp, h⟩ := h
    rcases List.mem_cons.1 hm with rfl | hm
    · exact put_some hp frx hn
    · exact Puts.can h m hm frx (by rw [hn, (put_at hp).2.1])

section
variable {P : Program} {T : Tb} (hP : TbOk P T) {e : Ev} (he : Sound P e) {ops : Array Oper} {σs : Nat → St} {σ0 : St} {al rs : List It} {fr0 fr1 fr' : Fr} {K' : Nat} (hpl : PlanOk P T e ops σs σ0 al rs fr0 fr1 fr' K')
  {ok : Nat → Prop} {C0 : Cx} {w0 : World}

include hpl in
theorem PlanOk.idx {a b : It} (ha : a ∈ al ++ rs) (hb : b ∈ al ++ rs) : (a.i = b.i → a = b) ∧ (∀ d, a.o.dst = some d → b.o.dst = some d → a = b) := by
  rcases pw_mem hpl.pw a ha b hb with h | h | h
  · exact ⟨fun _ => h, fun _ _ _ => h⟩
  · obtain ⟨h1, h2, _⟩ := pairOk_spec h
    exact ⟨fun e => absurd e h1, fun d hd hd' => absurd hd' (h2 d hd)⟩
  · obtain ⟨h1, h2, _⟩ := pairOk_spec h
    exact ⟨fun e => absurd e.symm h1, fun d hd hd' => absurd hd (h2 d hd')⟩
include hpl in
theorem PlanOk.apart : Apart (al ++ rs) := fun _ ha _ hb => hpl.idx ha hb

/-- Kinds in the plan. -/
theorem PlanRun.kinds : ∀ {l : List It} {K K' : Nat} {fr fr' : Fr}, PlanRun T e ops σs l K fr K' fr' → ∀ m ∈ l, loud m.o = true ∨ kindOf m.o = 0
  | [], _, _, _, _, _, _, hm => by cases hm
  | b :: l, K, K', fr, fr', h, m, hm => by
    obtain ⟨_, fr1, _, ⟨h1, _, h⟩ | ⟨h1, _, h⟩⟩ := h
    · rcases List.mem_cons.1 hm with rfl | hm
      · exact .inl h1
      · exact PlanRun.kinds h m hm
    · rcases List.mem_cons.1 hm with rfl | hm
      · exact .inr h1
      · exact PlanRun.kinds h m hm

variable {listed : Array Bool} {C : Cx} {a : Act} {w : World} {k : Nat} {fr : Fr}

/-- What is listed with m may be: m's edges are paid. -/
theorem down_add (hD : DInv T ops σs σ0 al rs fr0 K' ok C0 w0 listed C a w k fr) {i : Nat} {o : Oper} (hi : i < listed.size) (ho : ops[i]? = some o) (hed : ∀ e ∈ o.after.toList, Region.binds .any e = true → listed.getD e.on false = true) :
    ∀ j o', ops[j]? = some o' → (listed.setIfInBounds i true).getD j false = true → ∀ e ∈ o'.after.toList, Region.binds .any e = true → (listed.setIfInBounds i true).getD e.on false = true := by
  intro j o' hj hS e he hb
  rw [getD_setl hi] at hS ⊢
  simp only [Bool.or_eq_true, beq_iff_eq] at hS ⊢
  rcases hS with hS | rfl
  · exact .inl (hD.down j o' hj hS e he hb)
  · rw [ho] at hj
    cases hj
    exact .inl (hed e he hb)

include hpl in
/-- Those before one that writes. -/
theorem held_at {S : Nat → Bool} (hS : ∀ j o, ops[j]? = some o → S j = true → ∀ e ∈ o.after.toList, Region.binds .any e = true → S e.on = true) {pre post : List It} {q : It} (hrs : rs = pre ++ q :: post) (hq : loud q.o = true) (hSq : S q.i = true) : ∀ m ∈ pre, S m.i = true := by
  intro m hm
  have hh := hpl.held
  rw [hrs, List.map_append, List.map_cons] at hh
  refine held (S := S) hh (fun p hp hSp j hd => ?_) hq hSq m.io (List.mem_map_of_mem hm)
  obtain ⟨e', he', hej, heb⟩ := direct_iff.1 hd
  have hmem : ∃ b ∈ al ++ rs, b.io = p := by
    rcases List.mem_append.1 hp with hp | hp
    · obtain ⟨b, hb, hbp⟩ := List.mem_map.1 hp
      exact ⟨b, by rw [hrs]; simp [hb], hbp⟩
    · exact ⟨q, by rw [hrs]; simp, (List.mem_singleton.1 hp).symm⟩
  obtain ⟨b, hb, rfl⟩ := hmem
  rw [← hej]
  exact hS b.i b.o (hpl.io b hb) hSp e' he' heb

include hpl in
/-- The frame at hand and the plan's frame agree on what m looks at. -/
theorem looks_same (hD : DInv T ops σs σ0 al rs fr0 K' ok C0 w0 listed C a w k fr) {pre post : List It} {m : It} (hrs : rs = pre ++ m :: post) {frm : Fr} (hpm : Puts (al ++ pre) fr0 frm) (hun : listed.getD m.i false = false)
    (hed : ∀ e ∈ m.o.after.toList, Region.binds .any e = true → listed.getD e.on false = true) : ∀ t ∈ m.o.looksAt ops, getT fr.tmps t = getT frm.tmps t := by
  intro t ht
  have hmm : m ∈ al ++ rs := by rw [hrs]; simp
  have hA := Puts.agree hpl.apart hpm (fun b hb => by rw [hrs]; rcases List.mem_append.1 hb with h | h <;> simp [h]) (Agree.none (al ++ rs) fr0)
  rw [hD.agree.at_, hA.at_]
  refine lookAt_congr (fun b hb hbt => ?_) _
  have hpw := hpl.pw
  rw [hrs, ← List.append_assoc, List.pairwise_append] at hpw
  obtain ⟨hpw1, hpw2, hpw3⟩ := hpw
  simp only [Bool.false_or]
  have hb' : b ∈ (al ++ pre) ∨ b = m ∨ b ∈ post := by
    rw [hrs] at hb
    rcases List.mem_append.1 hb with h | h
    · exact .inl (by simp [h])
    · rcases List.mem_append.1 h with h | h
      · exact .inl (by simp [h])
      · rcases List.mem_cons.1 h with h | h
        · exact .inr (.inl h)
        · exact .inr (.inr h)
  rcases hb' with hb1 | rfl | hb1
  · have hr : ((al ++ pre).any fun c => b.i == c.i) = true := List.any_eq_true.2 ⟨b, hb1, by simp⟩
    rw [hr]
    obtain ⟨_, _, h3⟩ := pairOk_spec (hpw3 b hb1 m (by simp))
    rcases h3 with h3 | ⟨h3, _⟩
    · obtain ⟨e', he', hej, heb⟩ := direct_iff.1 h3
      have := hed e' he' heb
      rw [hej] at this
      exact this
    · exact absurd ht (h3 t hbt)
  · have hr : ((al ++ pre).any fun c => b.i == c.i) = false := by
      rw [List.any_eq_false]
      intro c hc hcc
      exact (pairOk_spec (hpw3 c hc b (by simp))).1 (eq_of_beq hcc).symm
    rw [hr]
    exact hun
  · have hr : ((al ++ pre).any fun c => b.i == c.i) = false := by
      rw [List.any_eq_false]
      intro c hc hcc
      exact (pairOk_spec (hpw3 c hc b (by simp [hb1]))).1 (eq_of_beq hcc).symm
    rw [hr]
    have h4 := (List.pairwise_cons.1 hpw2).1 b hb1
    obtain ⟨_, _, h3⟩ := pairOk_spec h4
    rcases h3 with h3 | ⟨_, h3⟩
    · obtain ⟨e', he', hej, heb⟩ := direct_iff.1 h3
      cases hS : listed.getD b.i false with
      | false => rfl
      | true =>
        have := hD.down b.i b.o (hpl.io b hb) hS e' he' heb
        rw [hej] at this
        rw [show m.io.1 = m.i from rfl, hun] at this
        cases this
    · exact absurd ht (h3 t hbt)

include hP he hpl in
theorem draw_all (hok : ∀ b, w0.heap.size ≤ b → ok b) {ro : Option Nat} {n : Nat} {Q : Exit → Act → World → Prop} (hQ : ∀ C' w' a', Nx ok C0 σ0 w0 C' (σs K') w' → FR C' fr' a' → Q .normal a' w') :
    ∀ (fuel : Nat) (todo : List Nat) (listed : Array Bool) (C : Cx) (a : Act) (w : World) (k : Nat) (fr : Fr), todo.length = fuel → todo.Nodup → (∀ j, j ∈ todo ↔ j < ops.size ∧ listed.getD j false = false) →
      DInv T ops σs σ0 al rs fr0 K' ok C0 w0 listed C a w k fr → wpAnyIn (Fw ro) n P .any ops Q fuel listed a w := by
  have fin : ∀ (listed : Array Bool) (C : Cx) (a : Act) (w : World) (k : Nat) (fr : Fr), DInv T ops σs σ0 al rs fr0 K' ok C0 w0 listed C a w k fr → Region.ready .any ops listed = [] → Q .normal a w := by
    intro listed C a w k fr hD hr
    have hall : ∀ j, j < ops.size → listed.getD j false = true := by
      intro j
      induction j using Nat.strongRecOn with
      | _ j ih =>
        intro hj
        cases hS : listed.getD j false with
        | true => rfl
        | false =>
          have ho : ops[j]? = some ops[j] := Array.getElem?_eq_getElem hj
          have : j ∈ Region.ready .any ops listed := mem_ready.2 ⟨getD_unlisted (by rw [hD.size]; exact hj) hS, ops[j], ho, fun e' he' hb => by
            have hlt := hpl.edge j _ ho e' (Array.mem_toList_iff.2 he') hb
            exact ih e'.on hlt (by omega)⟩
          rw [hr] at this
          cases this
    have hSall : ∀ m ∈ al ++ rs, listed.getD m.i false = true := fun m hm => hall m.i (Array.getElem?_eq_some_iff.1 (hpl.io m hm)).1
    have hkK : k = K' := by
      rcases Nat.lt_or_ge k K' with hlt | hge
      · obtain ⟨m, hm, hl, hh⟩ := hpl.run.onto k (Nat.zero_le _) hlt
        have := (hD.louds m hm hl).1 (hSall m (by simp [hm]))
        omega
      · have := hD.hk
        omega
    subst hkK
    have hA := Puts.agree hpl.apart (Puts.append hpl.puts hpl.run.puts) (fun b hb => hb) (Agree.none (al ++ rs) fr0)
    have hA' : Agree (al ++ rs) (fun j => listed.getD j false) fr0 fr' := hA.congr fun m hm => by
      rw [hSall m hm]
      simp only [Bool.false_or]
      exact List.any_eq_true.2 ⟨m, hm, by simp⟩
    refine hQ C w a hD.nx ⟨fun d => ?_, ?_, ?_⟩
    · rw [hA'.at_, ← hD.agree.at_]; exact hD.fr.tr d
    · rw [hA'.n, ← hD.agree.n]; exact hD.fr.n
    · rw [hA'.dfs, ← hD.agree.dfs]; exact hD.fr.df
  intro fuel
  induction fuel with
  | zero =>
    intro todo listed C a w k fr hlen hnd hmem hD
    have hr : Region.ready .any ops listed = [] := by
      cases hr : Region.ready .any ops listed with
      | nil => rfl
      | cons x xs =>
        have hx : x ∈ Region.ready .any ops listed := by rw [hr]; simp
        obtain ⟨h1, o, ho, _⟩ := mem_ready.1 hx
        have := (hmem x).2 ⟨(Array.getElem?_eq_some_iff.1 ho).1, (getD_listed h1).2⟩
        rw [List.length_eq_zero_iff.1 hlen] at this
        cases this
    exact ⟨hr, fin listed C a w k fr hD hr⟩
  | succ fuel ih =>
    intro todo listed C a w k fr hlen hnd hmem hD
    refine ⟨fin listed C a w k fr hD, fun i hi => ?_⟩
    obtain ⟨h1, o, ho, hall⟩ := mem_ready.1 hi
    obtain ⟨hilt, hiS⟩ := getD_listed h1
    have hosz := (Array.getElem?_eq_some_iff.1 ho).1
    have hed : ∀ e' ∈ o.after.toList, Region.binds .any e' = true → listed.getD e'.on false = true := fun e' he' hb => hall e' (Array.mem_toList_iff.1 he') hb
    obtain ⟨m, hm, rfl⟩ := hpl.cov i hosz
    have hmo : o = m.o := by
      have := hpl.io m hm
      rw [ho] at this
      cases this; rfl
    subst hmo
    have hit : m.i ∈ todo := (hmem m.i).2 ⟨hosz, hiS⟩
    -- onwards
    have on : ∀ (C1 : Cx) (a1 : Act) (w1 : World) (k1 : Nat) (fr1 : Fr), DInv T ops σs σ0 al rs fr0 K' ok C0 w0 (listed.setIfInBounds m.i true) C1 a1 w1 k1 fr1 → wpAnyIn (Fw ro) n P .any ops Q fuel (listed.setIfInBounds m.i true) a1 w1 := by
      intro C1 a1 w1 k1 fr1 hD1
      refine ih (todo.erase m.i) _ C1 a1 w1 k1 fr1 (by rw [List.length_erase_of_mem hit, hlen]; rfl) (hnd.erase _) (fun j => ?_) hD1
      rw [hnd.mem_erase_iff, hmem j, getD_setl hilt]
      simp only [ne_eq, Bool.or_eq_false_iff, beq_eq_false_iff_ne]
      constructor
      · rintro ⟨h1, h2, h3⟩; exact ⟨h2, h3, h1⟩
      · rintro ⟨h1, h2, h3⟩; exact ⟨h3, h1, h2⟩
    have hdn := down_add hD hilt ho hed
    have hokw := okLater hok hD.nx
    have hput : ∃ fr2, fr.put m.o.dst m.v = some fr2 := Puts.can (Puts.append hpl.puts hpl.run.puts) m hm fr hD.agree.n
    obtain ⟨fr2, hp2⟩ := hput
    have hag2 : Agree (al ++ rs) (fun j => (listed.setIfInBounds m.i true).getD j false) fr0 fr2 := hD.agree.add hpl.apart hm (fun j => getD_setl hilt j) hp2
    have hsz2 : (listed.setIfInBounds m.i true).size = ops.size := by rw [Array.size_setIfInBounds]; exact hD.size
    have hother : ∀ b ∈ al ++ rs, b ≠ m → (listed.setIfInBounds m.i true).getD b.i false = listed.getD b.i false := fun b hb hne => by
      rw [getD_setl hilt]
      have : b.i ≠ m.i := fun e => hne ((hpl.idx hb hm).1 e)
      simp [this]
    have hself : (listed.setIfInBounds m.i true).getD m.i false = true := by rw [getD_setl hilt]; simp
    have hndisj : ∀ b ∈ al, b ∉ rs := fun b hb hb' => by
      have hpw := hpl.pw
      rw [List.pairwise_append] at hpw
      exact (pairOk_spec (hpw.2.2 b hb b hb')).1 rfl
    unfold wpOpIn
    rw [ho]
    simp only
    rcases List.mem_append.1 hm with hmal | hmrs
    · -- a new variable
      obtain ⟨hcur, hv, hg, elem, z, hop, hz, hget, hz1⟩ := hD.un m hmal hiS
      have hw : Region.wanted m.o (yielded ops a.tmps) = true := by simp [Region.wanted, hg]
      rw [if_pos hw]
      refine ⟨fun _ _ => trivial, ?_⟩
      obtain ⟨zv, hzr, hzo⟩ := run_zero hP hz w
      have hcells : ∀ C', VRs C' z.cells zv.cells.toList := fun C' => (ofV_ok (C := C') hzo).2.1
      have hlen : zv.cells.size = z.cells.length := by have := (hcells C).length; simpa using this
      have hrun : (Oper.semAt ro a.eval m.o).run P w = .ok (.value (.pointer (some ⟨w.heap.size, 0, none⟩))) (w.alloc (.cells zv.cells elem)) := by
        rw [Oper.semAt_eq ro a.eval m.o (fun c hc => by rw [hop] at hc; cases hc)]
        have hnv : (newVar elem zv).run P w = .ok ⟨w.heap.size, 0, none⟩ (w.alloc (.cells zv.cells elem)) := by
          show (newRow elem zv.cells).run P w = _
          simp [newRow]
        have e1 : execOp a.eval m.o = (do pure (.value (← Instr.alloc elem true (.tuple #[]))) : Sem Next) := by simp only [execOp, hop]
        rw [e1]
        simp only [run_vbind, Instr.alloc, Sem.run_bind, hzr, Result.andThen_ok, hnv, Sem.run_pure]
      rw [show (Fw ro).round = ro from rfl, hrun]
      have hb := hD.nx.rel.born elem hget hcur hokw (vs := zv.cells) (fun C' => by rw [← hlen, List.take_of_length_le (by simp)]; exact hcells C') hz1
      have hex := Ext.upd_new (b := w.heap.size) (n := zv.cells.size) hcur
      have hVR : VR (C.upd m.lo w.heap.size 0 zv.cells.size) m.v (.pointer (some ⟨w.heap.size, 0, none⟩)) := by
        rw [hv]
        exact ⟨_, rfl, ⟨0, by simp [Cx.upd], Nat.le_refl _⟩, fun _ => by simp [Cx.upd]⟩
      refine on (C.upd m.lo w.heap.size 0 zv.cells.size) _ _ k fr2 ⟨hsz2, hD.hk, ⟨hb, hD.nx.ext.trans hex, hD.nx.same.trans ⟨rfl, rfl, rfl, by simp, fun b hb => ?_⟩, fun id hid hc => ?_, hD.nx.mono⟩, hag2, (put_ok hp2 (hD.fr.ext hex) hVR).1, hdn, fun b hb hl => ?_, fun b hb hk0 hS => ?_, fun b hb hS => ?_⟩
      · by_cases hlt : b < w.heap.size
        · exact heap_push_lt w _ b hlt
        · exact absurd (hokw b (by omega)) hb
      · obtain ⟨q1, q2⟩ := hD.nx.un id hid hc
        refine ⟨q1, ?_⟩
        have : id ≠ m.lo := by have := hpl.idn m hmal; omega
        simp [Cx.upd, this, q2]
      · rw [hother b (by simp [hb]) (fun e => hndisj m hmal (e ▸ hb))]
        exact hD.louds b hb hl
      · rw [hother b (by simp [hb]) (fun e => hndisj m hmal (e ▸ hb))] at hS
        exact hD.los b hb hk0 hS
      · have hne : b ≠ m := fun e => by rw [e, hself] at hS; cases hS
        rw [hother b (by simp [hb]) hne] at hS
        obtain ⟨q1, q2⟩ := hD.un b hb hS
        refine ⟨?_, q2⟩
        have : b.lo ≠ m.lo := fun e => hne ((hpl.idx (by simp [hb]) hm).1 (hpl.ids b hb m hmal e))
        simp [Cx.upd, this, q1]
    · -- an operation of the plan's rest
      obtain ⟨pre, post, hrs⟩ := List.append_of_mem hmrs
      have hrun := hpl.run
      rw [hrs] at hrun
      obtain ⟨K1, frm, hrpre, hrest⟩ := hrun.split
      obtain ⟨hhi, frm1, hpm, hcase⟩ := hrest
      have hsame := looks_same hpl hD hrs (Puts.append hpl.puts hrpre.puts) hiS hed
      -- what is kept of variables not yet made
      have keep : ∀ {C1 : Cx} {w1 : World} {k1 : Nat}, Nx ok C (σs k) w C1 (σs k1) w1 → ∀ b ∈ al, (listed.setIfInBounds m.i true).getD b.i false = false → C1.cur b.lo = none ∧ NewAt T (σs k1) b := by
        intro C1 w1 k1 hn b hb hS
        rw [hother b (by simp [hb]) (fun e => hndisj b hb (e ▸ hmrs))] at hS
        obtain ⟨q1, q2, q3, elem, z, q4, q5, q6, q7⟩ := hD.un b hb hS
        obtain ⟨r1, r2⟩ := hn.un b.lo (hD.nx.rel.lt _ _ q6) q1
        exact ⟨r2, q2, q3, elem, z, q4, q5, by rw [r1]; exact q6, q7⟩
      rcases hcase with ⟨hl, hx, hpost⟩ | ⟨hk0, hx, hpost⟩
      · -- it writes
        have hkm : k = m.hi := by
          have hnl : ¬ m.hi < k := fun h => by have := (hD.louds m hmrs hl).2 h; rw [hiS] at this; cases this
          rcases Nat.lt_or_ge k m.hi with hlt | hge
          · obtain ⟨b, hb, hbl, hbh⟩ := hrpre.onto k (Nat.zero_le _) (by omega)
            have := held_at hpl hdn hrs hl hself b hb
            have hbm : b ≠ m := fun e => by rw [e] at hbh; omega
            rw [hother b (by rw [hrs]; simp [hb]) hbm] at this
            have := (hD.louds b (by rw [hrs]; simp [hb]) hbl).1 this
            omega
          · omega
        rw [← hhi, ← hkm] at hx
        rw [← exec1_congr hsame] at hx
        refine exec1_ok hP he hx hD.nx.rel hokw hD.fr fun C' w' x hn hv => ?_
        have hk1 : k + 1 ≤ K' := by
          have := (hpost.bounds).1
          omega
        refine on C' _ w' (k + 1) fr2 ⟨hsz2, hk1, hD.nx.trans hn, hag2, (put_ok hp2 (hD.fr.ext hn.ext) hv).1, hdn, fun b hb hbl => ?_, fun b hb hk0 hS => ?_, keep hn⟩
        · by_cases hbm : b = m
          · subst hbm
            rw [hself]
            exact ⟨fun _ => by omega, fun _ => rfl⟩
          · rw [hother b (by simp [hb]) hbm, hD.louds b hb hbl]
            have hbne : b.hi ≠ k := by
              rw [hrs] at hb
              rcases List.mem_append.1 hb with hb | hb
              · have := (hrpre.bounds.2 b hb).2.2 hbl
                omega
              · rcases List.mem_cons.1 hb with hb | hb
                · exact absurd hb hbm
                · have := (hpost.bounds.2 b hb).1
                  omega
            omega
        · have hbm : b ≠ m := fun e => by subst e; have := loud_kind hl; omega
          rw [hother b (by simp [hb]) hbm] at hS
          have := hD.los b hb hk0 hS
          omega
      · -- it writes nothing
        have hle : k ≤ K1 := by
          rcases Nat.lt_or_ge K1 k with hlt | hge
          · obtain ⟨b, hb, hbl, hbh⟩ := hpost.onto K1 (Nat.le_refl _) (Nat.lt_of_lt_of_le hlt hD.hk)
            have hSb := (hD.louds b (by rw [hrs]; simp [hb]) hbl).2 (by omega)
            obtain ⟨p1, p2, hpp⟩ := List.append_of_mem hb
            have := held_at hpl hD.down (pre := pre ++ m :: p1) (post := p2) (q := b) (by rw [hrs, hpp]; simp) hbl hSb m (by simp)
            rw [hiS] at this
            cases this
          · exact hge
        have hlo : m.lo ≤ k := hpl.lo m hmrs hk0 k fun e' he' hbe b hb hbi => by
          have hS := hed e' he' hbe
          rw [← hbi] at hS
          exact ⟨fun hbl => (hD.louds b hb hbl).1 hS, fun hb0 => hD.los b hb hb0 hS⟩
        have hx := hx k hlo hle
        rw [← exec1_congr hsame] at hx
        refine exec1_ok hP he hx hD.nx.rel hokw hD.fr fun C' w' x hn hv => ?_
        refine on C' _ w' k fr2 ⟨hsz2, hD.hk, hD.nx.trans hn, hag2, (put_ok hp2 (hD.fr.ext hn.ext) hv).1, hdn, fun b hb hbl => ?_, fun b hb hb0 hS => ?_, keep hn⟩
        · have hbm : b ≠ m := fun e => by subst e; have := loud_kind hbl; omega
          rw [hother b (by simp [hb]) hbm]
          exact hD.louds b hb hbl
        · by_cases hbm : b = m
          · subst hbm; exact hlo
          · rw [hother b (by simp [hb]) hbm] at hS
            exact hD.los b hb hb0 hS
end
end Go.Ab
