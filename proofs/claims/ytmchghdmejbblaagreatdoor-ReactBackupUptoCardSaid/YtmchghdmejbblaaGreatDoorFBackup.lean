/- The closed facts of the row of ReactBackup, one by one. -/
import Derived.Test.YtmchghdmejbblaaGreatDoorRows
import Derived.JoinedOf
set_option linter.unusedSimpArgs false
set_option linter.unusedVariables false
noncomputable section
namespace Go.Proofs.YtmchghdmejbblaaGreatDoor.reactBackup
open Go
theorem andi {a b : Bool} (h : a = true) (k : b = true) : (a && b) = true := by subst h; subst k; rfl
theorem k0 : (Rows.reactBackupUptoRow.wf (OpenSpec.ofChange ((Rows.OpenSpec.upto Rows.reactBackupSpec).bare)) : Bool) = true := by kernel_rfl
theorem k1 : (laidOutB Tryz.prog : Bool) = true := by kernel_rfl
theorem k2 : (mapsRowed Tryz.prog : Bool) = true := by kernel_rfl
theorem k3 : (Tryz.f12.params.all (Tryz.prog.readableRec ·) : Bool) = true := by kernel_rfl
theorem k4 : (namedTie Tryz.prog Rows.reactBackupUptoRow.named ((Rows.OpenSpec.upto Rows.reactBackupSpec).bare).vars : Bool) = true := by kernel_rfl
theorem k5 : ((Rows.reactBackupUptoRow.stops == []) : Bool) = true := by kernel_rfl
theorem k6 : ((Tryz.prog.stops == []) : Bool) = true := by kernel_rfl
theorem k7 : ((Rows.reactBackupUptoRow.knobs == []) : Bool) = true := by kernel_rfl
theorem k8 : ((Tryz.prog.stopKnobs == []) : Bool) = true := by kernel_rfl
theorem k9 : ((Rows.reactBackupUptoRow.inPlace == Tryz.prog.inPlace 12) : Bool) = true := by kernel_rfl
theorem k10 : ((Rows.reactBackupUptoRow.unfollowed == Tryz.prog.unfollowed 12) : Bool) = true := by kernel_rfl
theorem k11 : ((Rows.reactBackupUptoRow.recurses == Tryz.prog.recurses 12) : Bool) = true := by kernel_rfl
theorem k12 : ((Rows.reactBackupUptoRow.named == Tryz.prog.varsNamed 12) : Bool) = true := by kernel_rfl
theorem k13 : ((Rows.reactBackupUptoRow.maps == (Tryz.f12.params.toList ++ ((Rows.OpenSpec.upto Rows.reactBackupSpec).bare).plain.varTypes Tryz.prog).any (Tryz.prog.mapsRec ·)) : Bool) = true := by kernel_rfl
theorem k14 : ((Rows.reactBackupUptoRow.ifaces == (Tryz.f12.params.toList ++ ((Rows.OpenSpec.upto Rows.reactBackupSpec).bare).plain.varTypes Tryz.prog).any (Tryz.prog.ifacesRec ·)) : Bool) = true := by kernel_rfl
theorem k15 : ((Rows.reactBackupUptoRow.mapsOut == Tryz.prog.mapsAmong Tryz.f12.resultTypes.toList) : Bool) = true := by kernel_rfl
theorem k16 : ((Rows.reactBackupUptoRow.loops == (Tryz.f12.params.toList ++ ((Rows.OpenSpec.upto Rows.reactBackupSpec).bare).plain.varTypes Tryz.prog).any (Tryz.prog.loopsFrom ·)) : Bool) = true := by kernel_rfl
theorem k17 : ((Rows.reactBackupUptoRow.wideKeys == (Tryz.f12.params.toList ++ ((Rows.OpenSpec.upto Rows.reactBackupSpec).bare).plain.varTypes Tryz.prog ++ Tryz.f12.resultTypes.toList).any (Tryz.prog.wideKeysFrom ·)) : Bool) = true := by kernel_rfl
theorem k18 : (((Rows.OpenSpec.upto Rows.reactBackupSpec).bare).vars.all (Tryz.prog.varReadable ·) : Bool) = true := by kernel_rfl
theorem k19 : (Tryz.f12.resultTypes.all (fun t => Tryz.prog.readableRec t && decide (t < Tryz.prog.types.size)) : Bool) = true := by kernel_rfl
theorem k20 : ((Rows.reactBackupUptoRow.ifacesOut == Tryz.f12.resultTypes.toList.any (Tryz.prog.ifacesRec ·)) : Bool) = true := by kernel_rfl
theorem k21 : ((Rows.reactBackupUptoRow.loopsOut == Tryz.f12.resultTypes.toList.any (Tryz.prog.loopsFrom ·)) : Bool) = true := by kernel_rfl
theorem k22 : ((Rows.reactBackupUptoRow.plainKeys == Tryz.prog.plainKeys) : Bool) = true := by kernel_rfl
theorem k23 : (Rows.reactBackupUptoRow.shortTexts.isNone : Bool) = true := by kernel_rfl
theorem k24 : (Tryz.prog.stopsHeard : Bool) = true := by kernel_rfl
theorem k25 : (Tryz.prog.mayEnter : Bool) = true := by kernel_rfl
theorem k26 : ((Rows.reactBackupUptoRow.lifted == Tryz.prog.liftsFinal) : Bool) = true := by kernel_rfl
theorem k27 : ((Tryz.prog.make == some Rows.reactBackupUptoRow.make) : Bool) = true := by kernel_rfl
theorem k28 : ((Rows.reactBackupUptoRow.kinds == (if Rows.reactBackupUptoRow.domain.isEmpty then [] else Tryz.f12.params.toList.map fun t => match Tryz.prog.underlying t with | some (.int k) => some k | _ => none)) : Bool) = true := by kernel_rfl
theorem k29 : ((Rows.reactBackupUptoRow.pinned == Rows.reactBackupUptoRow.pinnedBy) : Bool) = true := by kernel_rfl
theorem k30 : ((Rows.reactBackupUptoRow.veiled == (Tryz.f12.params.toList ++ ((Rows.OpenSpec.upto Rows.reactBackupSpec).bare).plain.varTypes Tryz.prog ++ Tryz.f12.resultTypes.toList).any (Tryz.prog.veiledRec ·)) : Bool) = true := by kernel_rfl
theorem k31 : (Rows.reactBackupUptoRow.veiledFits Tryz.prog Tryz.f12.params.toList (Tryz.f12.params.toList ++ ((Rows.OpenSpec.upto Rows.reactBackupSpec).bare).plain.varTypes Tryz.prog ++ Tryz.f12.resultTypes.toList) : Bool) = true := by kernel_rfl
set_option maxRecDepth 100000 in
theorem closed : joinedFacts Tryz.prog 12 Tryz.f12 ((Rows.OpenSpec.upto Rows.reactBackupSpec).bare) Rows.reactBackupUptoRow = true := by
  unfold joinedFacts
  exact (andi (andi (andi (andi (andi (andi (andi (andi (andi (andi (andi (andi (andi (andi (andi (andi (andi (andi (andi (andi (andi (andi (andi (andi (andi (andi (andi (andi (andi (andi (andi k0 k1) k2) k3) k4) k5) k6) k7) k8) k9) k10) k11) k12) k13) k14) k15) k16) k17) k18) k19) k20) k21) k22) k23) k24) k25) k26) k27) k28) k29) k30) k31)
end Go.Proofs.YtmchghdmejbblaaGreatDoor.reactBackup
