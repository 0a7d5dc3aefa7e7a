/- From the evaluator's word to the model's: calls of the program; what reactions handed in read as. -/
import Derived.Test.YtmchghdmejbblaaGreatDoorBg
import Derived.Test.YtmchghdmejbblaaGreatDoorAn
import Derived.OpenShut
set_option linter.unusedSimpArgs false
set_option linter.unusedVariables false
noncomputable section
namespace Go.Proofs.YtmchghdmejbblaaGreatDoor
open Go Go.Ab Go.RowKit

theorem known : KnownOk Tryz.prog zq := by
  intro f v h
  unfold zq at h
  split at h
  · rename_i hf
    cases h
    have hf := Nat.eq_of_beq_eq_true hf
    subst hf
    exact ⟨.bool true, fun C => rfl, fun w => run_callFunc (fn := Tryz.f40) Tryz.func40 rfl (by kernel_rfl) #[] w, begins26⟩
  · cases h
theorem soundq (k : Nat) : Sound Tryz.prog (Mq.ev k) := soundZ tbOk (by kernel_rfl) gfOk extOk known k

/-- What the evaluator yields of rows that are read is true of the program's call. -/
theorem calls_of {f : FuncId} {fn : Func} {c : Code} (hf : Tryz.prog.funcs[f]? = some fn) (hb : fn.body = some c) (hn : (fn.name == "runtime.NumGoroutine") = false) {args : List AV} {σ : St} (h : Ca Mq f args σ fun v _ => v = .bool true) {r : Nat → Option Addr} {W : World} (hR : R0 W r σ)
    {xs : Array Value} (hx : VRs (C0 r) args xs.toList) : Calls Tryz.prog f xs W fun e w' => e = .returned (.bool true) ∧ Below W.heap.size W w' := by
  obtain ⟨k, v, σ', hs, rfl⟩ := h
  rcases (soundq k).call hs (ok := fun b => W.heap.size ≤ b) (C := C0 r) (w := W) (xs := xs) (n := 0) (K := fun v w' => v = .bool true ∧ Below W.heap.size W w') hR.rel (fun b hb => hb) hx
      (fun C' w' x hn hv => ⟨hv, hn.same.os, hn.same.tape, hn.same.output, hn.same.size, fun b hb => hn.same.block b (by omega)⟩) with ⟨_, x, w', hr, _⟩ | ⟨_, hc⟩
  · rw [run_callFunc hf hb hn] at hr
    cases hr
  · refine Calls.mono (callsIn_wide.1 hc) fun e w' hq => ?_
    cases e with
    | returned v => exact ⟨by rw [hq.1], hq.2⟩
    | panicked c => exact hq.elim
    | outgrown => exact hq.elim
theorem r0_begin (W : World) : R0 W (fun _ => none) o0 :=
  ⟨⟨fun id o cv h _ => (by cases h), fun id cv h => (by cases h), fun id id' cv cv' h => (by cases h), fun id o h => (by cases h), fun b => Nat.zero_le _, Nat.zero_le _, fun id cells h => (by cases h)⟩, fun id a h => by cases h⟩

section
variable {H : Type} {enc : TypeId × Value → H} {W : World} {K : Bulk H}
theorem adm_rx : Adm enc Tryz.prog W K 87 12 (fun _ c r => ER c r) (fun _ => 1) := by
  have A3 := Adm.int (enc := enc) (W := W) (K := K) Tryz.underlying3
  have A85 := Adm.int (enc := enc) (W := W) (K := K) Tryz.underlying85
  have A9 := Adm.string (enc := enc) (W := W) (K := K) Tryz.underlying9
  have A4 := Adm.bool (enc := enc) (W := W) (K := K) Tryz.underlying4
  have c3 : Tryz.prog.cellsOf 3 = 1 := by kernel_rfl
  have c85 : Tryz.prog.cellsOf 85 = 1 := by kernel_rfl
  have c9 : Tryz.prog.cellsOf 9 = 1 := by kernel_rfl
  have c4 : Tryz.prog.cellsOf 4 = 1 := by kernel_rfl
  have c87 : Tryz.prog.cellsOf 87 = 12 := by kernel_rfl
  have B := AdmF.cons (f := { name := "Element", type := 3, offset := 0, embedded := false, tag := "", pkgPath := "", byteOffset := 0 }) A3
    (AdmF.cons (f := { name := "Kind", type := 85, offset := 1, embedded := false, tag := "", pkgPath := "", byteOffset := 8 }) A85
    (AdmF.cons (f := { name := "Callback", type := 3, offset := 2, embedded := false, tag := "", pkgPath := "", byteOffset := 16 }) A3
    (AdmF.cons (f := { name := "Definition", type := 9, offset := 3, embedded := false, tag := "", pkgPath := "", byteOffset := 24 }) A9
    (AdmF.cons (f := { name := "Local", type := 9, offset := 4, embedded := false, tag := "", pkgPath := "", byteOffset := 40 }) A9
    (AdmF.cons (f := { name := "Space", type := 9, offset := 5, embedded := false, tag := "", pkgPath := "", byteOffset := 56 }) A9
    (AdmF.cons (f := { name := "Old", type := 9, offset := 6, embedded := false, tag := "", pkgPath := "", byteOffset := 72 }) A9
    (AdmF.cons (f := { name := "New", type := 9, offset := 7, embedded := false, tag := "", pkgPath := "", byteOffset := 88 }) A9
    (AdmF.cons (f := { name := "Had", type := 4, offset := 8, embedded := false, tag := "", pkgPath := "", byteOffset := 104 }) A4
    (AdmF.cons (f := { name := "Has", type := 4, offset := 9, embedded := false, tag := "", pkgPath := "", byteOffset := 105 }) A4
    (AdmF.cons (f := { name := "From", type := 3, offset := 10, embedded := false, tag := "", pkgPath := "", byteOffset := 112 }) A3
    (AdmF.cons (f := { name := "To", type := 3, offset := 11, embedded := false, tag := "", pkgPath := "", byteOffset := 120 }) A3
    (AdmF.nil (start := 12)) rfl c3) rfl c3) rfl c4) rfl c4) rfl c9) rfl c9) rfl c9) rfl c9) rfl c9) rfl c3) rfl c85) rfl c3
  refine (Adm.struct Tryz.underlying87 c87 B).map _ _ (fun x => ⟨x.1, x.2.1, x.2.2.1, x.2.2.2.1, x.2.2.2.2.1, x.2.2.2.2.2.1, x.2.2.2.2.2.2.1, x.2.2.2.2.2.2.2.1, x.2.2.2.2.2.2.2.2.1, x.2.2.2.2.2.2.2.2.2.1, x.2.2.2.2.2.2.2.2.2.2.1, x.2.2.2.2.2.2.2.2.2.2.2.1⟩) ?_ (fun σ σ' c a _ h => h) (fun a => Nat.le_add_right 1 _)
  rintro σ c x ⟨_, _, rfl, _, ⟨rfl, _⟩, _, _, rfl, _, ⟨rfl, hw⟩, _, _, rfl, _, ⟨rfl, _⟩, _, _, rfl, _, rfl, _, _, rfl, _, rfl, _, _, rfl, _, rfl, _, _, rfl, _, rfl, _, _, rfl, _, rfl, _, _, rfl, _, rfl, _, _, rfl, _, rfl, _, _, rfl, _, ⟨rfl, _⟩, _, _, rfl, _, ⟨rfl, _⟩, rfl⟩
  refine ⟨rfl, ?_⟩
  simp only
  simp [Lit.wf] at hw
  have h0 : IntKind.u8.min = 0 := rfl
  have := hw.1
  omega
theorem adm_qu : Adm enc Tryz.prog W K 81 2 (fun σ c q => EQ (· < σ.next) σ c q) (fun q => q.list.length + 1) := by
  have A3 := Adm.int (enc := enc) (W := W) (K := K) Tryz.underlying3
  have c3 : Tryz.prog.cellsOf 3 = 1 := by kernel_rfl
  have c87 : Tryz.prog.cellsOf 87 = 12 := by kernel_rfl
  have c79 : Tryz.prog.cellsOf 79 = 1 := by kernel_rfl
  have c81 : Tryz.prog.cellsOf 81 = 2 := by kernel_rfl
  have A79 := Adm.slice (adm_rx (enc := enc) (W := W) (K := K)) Tryz.underlying79 c87 (by omega)
  have B := AdmF.cons (f := { name := "Element", type := 3, offset := 0, embedded := false, tag := "", pkgPath := "", byteOffset := 0 }) A3
    (AdmF.cons (f := { name := "List", type := 79, offset := 1, embedded := false, tag := "", pkgPath := "", byteOffset := 8 }) A79
    (AdmF.nil (start := 2)) rfl c79) rfl c3
  refine (Adm.struct Tryz.underlying81 c81 B).map _ _ (fun x => ⟨x.1, x.2.1⟩) ?_ (fun σ σ' c a g h => h.keep g.keeps fun _ hi => Nat.lt_of_lt_of_le hi g.le) (fun a => ?_)
  · rintro σ c x ⟨_, _, rfl, _, ⟨rfl, _⟩, _, _, rfl, _, ⟨v, rfl, hv⟩, rfl⟩
    exact ⟨v, rfl, hv⟩
  · have : (a.2.1.map fun _ => 1).sum = a.2.1.length := by
      induction a.2.1 with
      | nil => rfl
      | cons x l ih => simp only [List.map_cons, List.sum_cons, ih, List.length_cons]; omega
    simp only [this]
    omega
def Re.sz (s : Re) : Nat := (s.qs.map fun q => q.list.length + 1).sum + (s.stack.map fun l => l.length + 1).sum + s.backup.length
theorem sum_ones {α : Type} (l : List α) : (l.map fun _ => 1).sum = l.length := by
  induction l with
  | nil => rfl
  | cons x l ih => simp only [List.map_cons, List.sum_cons, ih, List.length_cons]; omega
set_option maxRecDepth 100000 in
theorem adm_re : Adm enc Tryz.prog W K 64 4 (fun σ c s => ReC (· < σ.next) σ c s) Re.sz := by
  have A3 := Adm.int (enc := enc) (W := W) (K := K) Tryz.underlying3
  have A4 := Adm.bool (enc := enc) (W := W) (K := K) Tryz.underlying4
  have c3 : Tryz.prog.cellsOf 3 = 1 := by kernel_rfl
  have c4 : Tryz.prog.cellsOf 4 = 1 := by kernel_rfl
  have c40 : Tryz.prog.cellsOf 40 = 1 := by kernel_rfl
  have c61 : Tryz.prog.cellsOf 61 = 1 := by kernel_rfl
  have c62 : Tryz.prog.cellsOf 62 = 1 := by kernel_rfl
  have c81 : Tryz.prog.cellsOf 81 = 2 := by kernel_rfl
  have c64 : Tryz.prog.cellsOf 64 = 4 := by kernel_rfl
  have A61 := Adm.slice (adm_qu (enc := enc) (W := W) (K := K)) Tryz.underlying61 c81 (by omega)
  have A40 := Adm.slice A3 Tryz.underlying40 c3 (by omega)
  have A62 := Adm.slice A40 Tryz.underlying62 c40 (by omega)
  have B := AdmF.cons (f := { name := "Queues", type := 61, offset := 0, embedded := false, tag := "", pkgPath := "", byteOffset := 0 }) A61
    (AdmF.cons (f := { name := "Stack", type := 62, offset := 1, embedded := false, tag := "", pkgPath := "", byteOffset := 24 }) A62
    (AdmF.cons (f := { name := "Backup", type := 40, offset := 2, embedded := false, tag := "", pkgPath := "", byteOffset := 48 }) A40
    (AdmF.cons (f := { name := "Busy", type := 4, offset := 3, embedded := false, tag := "", pkgPath := "", byteOffset := 72 }) A4
    (AdmF.nil (start := 4)) rfl c4) rfl c40) rfl c62) rfl c61
  refine (Adm.struct Tryz.underlying64 c64 B).map _ _ (fun x => ⟨x.1, x.2.1, x.2.2.1, x.2.2.2.1⟩) ?_ (fun σ σ' c a g h => h.gro g) (fun a => ?_)
  · rintro σ c x ⟨_, _, rfl, _, ⟨vq, rfl, hq⟩, _, _, rfl, _, ⟨vs, rfl, hs⟩, _, _, rfl, _, ⟨vb, rfl, hb⟩, _, _, rfl, _, rfl, rfl⟩
    refine ⟨vq, vs, vb, rfl, hq, hs.keep (fun _ _ => rfl) (fun _ h => h) (fun c a h => ?_), hb.keep (fun _ _ => rfl) (fun _ h => h) (fun c a h => h.1)⟩
    obtain ⟨v, rfl, hv⟩ := h
    exact ⟨v, rfl, hv.keep (fun _ _ => rfl) (fun _ h => h) (fun c a h => h.1)⟩
  · have h1 := sum_ones a.2.2.1
    have h2 : (a.2.1.map fun l => (l.map fun _ => 1).sum + 1) = a.2.1.map fun l => l.length + 1 := by
      congr 1
      funext l
      rw [sum_ones]
    simp only [Re.sz, h1, h2]
    omega
end
theorem len_sum {α : Type} (f : α → Nat) (l : List α) : l.length ≤ (l.map fun x => f x + 1).sum ∧ (l.map f).sum ≤ (l.map fun x => f x + 1).sum ∧ ∀ x ∈ l, f x ≤ (l.map fun x => f x + 1).sum := by
  induction l with
  | nil => simp
  | cons a l ih =>
    obtain ⟨h1, h2, h3⟩ := ih
    simp only [List.length_cons, List.map_cons, List.sum_cons]
    refine ⟨by omega, by omega, fun x hx => ?_⟩
    rcases List.mem_cons.1 hx with rfl | hx
    · omega
    · have := h3 x hx
      omega
theorem re_ok {s : Re} (h : s.sz ≤ 1048576) : s.ok := by
  unfold Re.sz at h
  obtain ⟨a1, a2, _⟩ := len_sum (fun q : Qu => q.list.length) s.qs
  obtain ⟨b1, _, b3⟩ := len_sum (fun l : List Int => l.length) s.stack
  exact ⟨by unfold Bd; omega, by unfold Bd; omega, by unfold Bd; omega, fun l hl => by have := b3 l hl; unfold Bd; omega, by unfold Bd; omega⟩
end Go.Proofs.YtmchghdmejbblaaGreatDoor
