/- The program's tables, and the closed runs. -/
import Derived.Test.YtmchghdmejbblaaGreatDoorAl
import Derived.Test.YtmchghdmejbblaaGreatDoorProg
import Derived.Laws.Externs
import Derived.KernelRfl
set_option linter.unusedSimpArgs false
set_option linter.unusedVariables false
namespace Go.Proofs.YtmchghdmejbblaaGreatDoor
open Go Go.Ab Go.RowKit

noncomputable def tb : Tb := Tr.tab (mkTI Tryz.prog) 9 1 0
noncomputable def gf : Tr Func := Tr.tab (fun f => Tryz.prog.funcs[f]?) 9 1 0
def indexByteA : List AV → Option AV
  | [.str b, .int .u8 c] => some (.int .i64 (firstIdx b c.toNat.toUInt8))
  | _ => none
def extA (f : FuncId) : Option (List AV → Option AV) := match Nat.beq f 277 with | true => some indexByteA | false => none
def o0 : St := { objs := .leaf, next := 0 }
def isTrue (x : Option (AV × St)) : Bool := match x with | some (.bool true, _) => true | _ => false

theorem tbOk : TbOk Tryz.prog tb := fun t i h => by simpa using get_tab _ 9 1 0 t i h
theorem gfOk : ∀ f fn, gf.get f = some fn → Tryz.prog.funcs[f]? = some fn := fun t i h => by simpa using get_tab _ 9 1 0 t i h
theorem extOk : ExtOk Tryz.prog extA := by
  intro f g args v hg hv
  unfold extA at hg
  split at hg
  · rename_i hf
    have hf := Nat.eq_of_beq_eq_true hf
    subst hf
    cases hg
    unfold indexByteA at hv
    split at hv
    · rename_i b c
      cases hv
      refine ⟨rfl, fun C xs w hx => ?_⟩
      obtain ⟨x1, l1, e1, h1, x2, l2, e2, h2, h3⟩ := hx
      cases h1; cases h2; cases h3
      subst e2
      have hxs : xs = #[.string b, .int .u8 c] := by
        apply Array.ext'
        simpa using e1
      subst hxs
      refine ⟨.int .i64 (firstIdx b c.toNat.toUInt8), ?_, rfl⟩
      rw [run_callFunc_extern Tryz.func277 (by kernel_rfl) (by kernel_rfl) (by kernel_rfl) (show Extern.find Tryz.f277 = some Extern.BytealgIndexByte.indexByte by kernel_rfl), run_indexByte_string]
      rfl
    · cases hv
  · cases hg

theorem soundly (k : Nat) : Sound Tryz.prog (ev tb gf extA k) := sound tbOk (by kernel_rfl) gfOk extOk k

def C00 : Cx := ⟨fun _ => 0, fun _ => none, fun _ => 0, fun _ => none⟩
theorem R00 (ok : Nat → Prop) (w : World) : R ok C00 o0 w :=
  ⟨fun id o cv h _ => (by cases h), fun id cv h => (by cases h), fun id id' cv cv' h => (by cases h), fun id o h => (by cases h), fun b => Nat.zero_le _, Nat.zero_le _, fun id cells h => (by cases h)⟩
theorem isTrue_some {r : Option (AV × St)} (h : isTrue r = true) : ∃ σ, r = some (.bool true, σ) := by
  unfold isTrue at h
  split at h
  · exact ⟨_, rfl⟩
  · cases h

/-- A closed run that yields true. -/
theorem closed_calls {f : FuncId} {fn : Func} {c : Code} {k : Nat} (hf : Tryz.prog.funcs[f]? = some fn) (hb : fn.body = some c) (hn : (fn.name == "runtime.NumGoroutine") = false) (h : isTrue ((ev tb gf extA k).call f [] o0) = true) (w : World) :
    Calls Tryz.prog f #[] w fun e w' => e = .returned (.bool true) ∧ Below w.heap.size w w' := by
  obtain ⟨σ, hs⟩ := isTrue_some h
  rcases (soundly k).call hs (ok := fun b => w.heap.size ≤ b) (C := C00) (w := w) (xs := #[]) (n := 0) (K := fun v w' => v = .bool true ∧ Below w.heap.size w w') (R00 _ w) (fun b hb => hb) rfl
      (fun C' w' x hn hv => ⟨hv, hn.same.os, hn.same.tape, hn.same.output, hn.same.size, fun b hb => hn.same.block b (by omega)⟩) with ⟨_, x, w', hr, _⟩ | ⟨_, hc⟩
  · rw [run_callFunc hf hb hn] at hr
    cases hr
  · refine Calls.mono (callsIn_wide.1 hc) fun e w' hq => ?_
    cases e with
    | returned v => exact ⟨by rw [hq.1], hq.2⟩
    | panicked c => exact hq.elim
    | outgrown => exact hq.elim
end Go.Proofs.YtmchghdmejbblaaGreatDoor
