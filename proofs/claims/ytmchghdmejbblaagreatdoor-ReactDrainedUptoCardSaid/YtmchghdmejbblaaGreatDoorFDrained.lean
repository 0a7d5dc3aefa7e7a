/- The closed facts of the row of ReactDrained, one by one. -/
import Derived.Test.YtmchghdmejbblaaGreatDoorRows
import Derived.JoinedOf
set_option linter.unusedSimpArgs false
set_option linter.unusedVariables false
noncomputable section
namespace Go.Proofs.YtmchghdmejbblaaGreatDoor.reactDrained
open Go
theorem andi {a b : Bool} (h : a = true) (k : b = true) : (a && b) = true := by subst h; subst k; rfl
theorem k0 : (Rows.reactDrainedUptoRow.wf (OpenSpec.ofChange ((Rows.OpenSpec.upto Rows.reactDrainedSpec).bare)) : Bool) = true := by kernel_rfl
theorem k1 : (laidOutB Tryz.prog : Bool) = true := by kernel_rfl
theorem k2 : (mapsRowed Tryz.prog : Bool) = true := by kernel_rfl
theorem k3 : (Tryz.f9.params.all (Tryz.prog.readableRec ·) : Bool) = true := by kernel_rfl
theorem k4 : (namedTie Tryz.prog Rows.reactDrainedUptoRow.named ((Rows.OpenSpec.upto Rows.reactDrainedSpec).bare).vars : Bool) = true := by kernel_rfl
theorem k5 : ((Rows.reactDrainedUptoRow.stops == []) : Bool) = true := by kernel_rfl
theorem k6 : ((Tryz.prog.stops == []) : Bool) = true := by kernel_rfl
theorem k7 : ((Rows.reactDrainedUptoRow.knobs == []) : Bool) = true := by kernel_rfl
theorem k8 : ((Tryz.prog.stopKnobs == []) : Bool) = true := by kernel_rfl
theorem k9 : ((Rows.reactDrainedUptoRow.inPlace == Tryz.prog.inPlace 9) : Bool) = true := by kernel_rfl
theorem k10 : ((Rows.reactDrainedUptoRow.unfollowed == Tryz.prog.unfollowed 9) : Bool) = true := by kernel_rfl
theorem k11 : ((Rows.reactDrainedUptoRow.recurses == Tryz.prog.recurses 9) : Bool) = true := by kernel_rfl
theorem k12 : ((Rows.reactDrainedUptoRow.named == Tryz.prog.varsNamed 9) : Bool) = true := by kernel_rfl
theorem k13 : ((Rows.reactDrainedUptoRow.maps == (Tryz.f9.params.toList ++ ((Rows.OpenSpec.upto Rows.reactDrainedSpec).bare).plain.varTypes Tryz.prog).any (Tryz.prog.mapsRec ·)) : Bool) = true := by kernel_rfl
theorem k14 : ((Rows.reactDrainedUptoRow.ifaces == (Tryz.f9.params.toList ++ ((Rows.OpenSpec.upto Rows.reactDrainedSpec).bare).plain.varTypes Tryz.prog).any (Tryz.prog.ifacesRec ·)) : Bool) = true := by kernel_rfl
theorem k15 : ((Rows.reactDrainedUptoRow.mapsOut == Tryz.prog.mapsAmong Tryz.f9.resultTypes.toList) : Bool) = true := by kernel_rfl
theorem k16 : ((Rows.reactDrainedUptoRow.loops == (Tryz.f9.params.toList ++ ((Rows.OpenSpec.upto Rows.reactDrainedSpec).bare).plain.varTypes Tryz.prog).any (Tryz.prog.loopsFrom ·)) : Bool) = true := by kernel_rfl
theorem k17 : ((Rows.reactDrainedUptoRow.wideKeys == (Tryz.f9.params.toList ++ ((Rows.OpenSpec.upto Rows.reactDrainedSpec).bare).plain.varTypes Tryz.prog ++ Tryz.f9.resultTypes.toList).any (Tryz.prog.wideKeysFrom ·)) : Bool) = true := by kernel_rfl
theorem k18 : (((Rows.OpenSpec.upto Rows.reactDrainedSpec).bare).vars.all (Tryz.prog.varReadable ·) : Bool) = true := by kernel_rfl
theorem k19 : (Tryz.f9.resultTypes.all (fun t => Tryz.prog.readableRec t && decide (t < Tryz.prog.types.size)) : Bool) = true := by kernel_rfl
theorem k20 : ((Rows.reactDrainedUptoRow.ifacesOut == Tryz.f9.resultTypes.toList.any (Tryz.prog.ifacesRec ·)) : Bool) = true := by kernel_rfl
theorem k21 : ((Rows.reactDrainedUptoRow.loopsOut == Tryz.f9.resultTypes.toList.any (Tryz.prog.loopsFrom ·)) : Bool) = true := by kernel_rfl
theorem k22 : ((Rows.reactDrainedUptoRow.plainKeys == Tryz.prog.plainKeys) : Bool) = true := by kernel_rfl
theorem k23 : (Rows.reactDrainedUptoRow.shortTexts.isNone : Bool) = true := by kernel_rfl
theorem k24 : (Tryz.prog.stopsHeard : Bool) = true := by kernel_rfl
theorem k25 : (Tryz.prog.mayEnter : Bool) = true := by kernel_rfl
theorem k26 : ((Rows.reactDrainedUptoRow.lifted == Tryz.prog.liftsFinal) : Bool) = true := by kernel_rfl
theorem k27 : ((Tryz.prog.make == some Rows.reactDrainedUptoRow.make) : Bool) = true := by kernel_rfl
theorem k28 : ((Rows.reactDrainedUptoRow.kinds == (if Rows.reactDrainedUptoRow.domain.isEmpty then [] else Tryz.f9.params.toList.map fun t => match Tryz.prog.underlying t with | some (.int k) => some k | _ => none)) : Bool) = true := by kernel_rfl
theorem k29 : ((Rows.reactDrainedUptoRow.pinned == Rows.reactDrainedUptoRow.pinnedBy) : Bool) = true := by kernel_rfl
theorem k30 : ((Rows.reactDrainedUptoRow.veiled == (Tryz.f9.params.toList ++ ((Rows.OpenSpec.upto Rows.reactDrainedSpec).bare).plain.varTypes Tryz.prog ++ Tryz.f9.resultTypes.toList).any (Tryz.prog.veiledRec ·)) : Bool) = true := by kernel_rfl
theorem k31 : (Rows.reactDrainedUptoRow.veiledFits Tryz.prog Tryz.f9.params.toList (Tryz.f9.params.toList ++ ((Rows.OpenSpec.upto Rows.reactDrainedSpec).bare).plain.varTypes Tryz.prog ++ Tryz.f9.resultTypes.toList) : Bool) = true := by kernel_rfl
set_option maxRecDepth 100000 in
theorem closed : joinedFacts Tryz.prog 9 Tryz.f9 ((Rows.OpenSpec.upto Rows.reactDrainedSpec).bare) Rows.reactDrainedUptoRow = true := by
  unfold joinedFacts
  exact (andi (andi (andi (andi (andi (andi (andi (andi (andi (andi (andi (andi (andi (andi (andi (andi (andi (andi (andi (andi (andi (andi (andi (andi (andi (andi (andi (andi (andi (andi (andi k0 k1) k2) k3) k4) k5) k6) k7) k8) k9) k10) k11) k12) k13) k14) k15) k16) k17) k18) k19) k20) k21) k22) k23) k24) k25) k26) k27) k28) k29) k30) k31)
end Go.Proofs.YtmchghdmejbblaaGreatDoor.reactDrained
