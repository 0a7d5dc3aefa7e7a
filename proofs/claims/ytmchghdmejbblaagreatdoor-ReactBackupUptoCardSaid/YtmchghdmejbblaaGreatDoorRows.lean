/-
  NARROWER THAN 'FOR EVERY INPUT', by the rows' own cells (each row's printed sentence says how): ShadowOnce: laid · ShadowSlots: laid · ShadowGives: laid · ShadowHand: laid · ReactStacks: laid · ReactKept: laid · ReactDrained: laid · ReactNothing: laid · ReactInOut: laid · ReactBackup: laid · ReactSeen: laid.
  DERIVED. THE GIVEN ROWS OF THIS SEAT. 11 by the template 'for every input the law returns true; each argument reads behind the call as it read before'; 0 by the template 'total and deterministic' (their statements: YtmchghdmejbblaaGreatDoorTotals.lean).
  GIVEN WITH THE SEED: the statements are not yours to turn. If you find one false, say at which input.
  Laid BY PROGRAM, IN A SANDBOX (cutbox-rows.mjs): the forced cells as the released guide's own fill.sh prints them over the translation 2a95dc609258851e… (all of the seat's roots in one cut). By AI agents, Wed Nov 11 2026. No macro, syntax, notation, axiom, sorry.
-/
import Derived.Test.YtmchghdmejbblaaGreatDoorChecked
import GoSem.PinnedTables
import GoSem.Claim
import GoSem.ClaimJoined
import GoSem.ClaimMapViews
import Derived.JoinedTies
import Derived.KernelRfl
namespace Go.Proofs.YtmchghdmejbblaaGreatDoor
/- THE CELL 'sum', in the pinned program and in every row, IS THE sha256 OF THE DUMP (.gsa) THAT YtmchghdmejbblaaGreatDoorProg.lean LOADS. Nothing in Lean hashes anything: it is a label: what it is worth is what the hold of that sum in a sandbox is worth. -/
noncomputable def Tryz.pinned : Pinned := { name := "ytmchghdmejbblaagreatdoor", sum := "2a95dc609258851e3c6954cb548f72ebea6804e5d726272b45a12f07cdc269fb", checked := Tryz.checked }
namespace Rows
def none {H : Type} : Left H := { results := [], args := [] }

/- WHAT THE LISTED PACKAGE-LEVEL VARIABLES READ AS WHEN THE CALL BEGINS. Each datum BY PROGRAM (the guide's laid-datum.mjs) off the statement by which the dump's own 'gosem.cut.vars' lays the variable. In a bare row this is a premise. The card (YtmchghdmejbblaaGreatDoorCards.lean) ties it to the program's text. -/
def laid_unicode_utf8_acceptRanges {H : Type} : DataW H := .agg [.agg [.lit (.int .u8 128), .lit (.int .u8 191)], .agg [.lit (.int .u8 160), .lit (.int .u8 191)], .agg [.lit (.int .u8 128), .lit (.int .u8 159)], .agg [.lit (.int .u8 144), .lit (.int .u8 191)], .agg [.lit (.int .u8 128), .lit (.int .u8 143)], .agg [.lit (.int .u8 0), .lit (.int .u8 0)], .agg [.lit (.int .u8 0), .lit (.int .u8 0)], .agg [.lit (.int .u8 0), .lit (.int .u8 0)], .agg [.lit (.int .u8 0), .lit (.int .u8 0)], .agg [.lit (.int .u8 0), .lit (.int .u8 0)], .agg [.lit (.int .u8 0), .lit (.int .u8 0)], .agg [.lit (.int .u8 0), .lit (.int .u8 0)], .agg [.lit (.int .u8 0), .lit (.int .u8 0)], .agg [.lit (.int .u8 0), .lit (.int .u8 0)], .agg [.lit (.int .u8 0), .lit (.int .u8 0)], .agg [.lit (.int .u8 0), .lit (.int .u8 0)]]
/-- One of Go's own tables, pinned by name: the form's constant. -/
def laid_unicode_utf8_first : DataW Unit := Go.Pinned.utf8First

/-- 'canopylaw18.ShadowOnce': WHATEVER THE INPUT: true; the input reads as it did. -/
def shadowOnceSpec : ChangeSpec := { name := "shadowOnce", fn := fun _ => fun
  | [d1, d2, d3, d4] => { results := [.lit (.bool true)], args := [d1, d2, d3, d4] }
  | _ => none }
def shadowOnceRow : OpenClaim := { program := "ytmchghdmejbblaagreatdoor", sum := "2a95dc609258851e3c6954cb548f72ebea6804e5d726272b45a12f07cdc269fb", func := "canopy/canopylaw18.ShadowOnce", spec := "shadowOnce", inPlace := ["internal/bytealg.IndexByteString", "internal/bytealg.IndexString", "slices.overlaps[int]", "slices.overlaps[uint16]"], unfollowed := true, recurses := true, named := ["unicode/utf8.first", "unicode/utf8.acceptRanges", "internal/bytealg.MaxLen"], plainKeys := false, apart := false, laid := [("unicode/utf8.acceptRanges", laid_unicode_utf8_acceptRanges), ("unicode/utf8.first", laid_unicode_utf8_first)] }
def ShadowOnceSaid : Prop := shadowOnceRow.holds Tryz.pinned (OpenSpec.ofChange shadowOnceSpec)

/-- ITS FALSE NEIGHBOUR: 'it returns false'. Refute it at one input. -/
def shadowOnceWrong : ChangeSpec := { name := "shadowOnce", fn := fun _ => fun
  | [d1, d2, d3, d4] => { results := [.lit (.bool false)], args := [d1, d2, d3, d4] }
  | _ => none }
def ShadowOnceWrongFalsely : Prop := shadowOnceRow.holds Tryz.pinned (OpenSpec.ofChange shadowOnceWrong)

/-- 'canopylaw18.ShadowSlots': WHATEVER THE INPUT: true; the input reads as it did. -/
def shadowSlotsSpec : ChangeSpec := { name := "shadowSlots", fn := fun _ => fun
  | [d1, d2, d3, d4] => { results := [.lit (.bool true)], args := [d1, d2, d3, d4] }
  | _ => none }
def shadowSlotsRow : OpenClaim := { program := "ytmchghdmejbblaagreatdoor", sum := "2a95dc609258851e3c6954cb548f72ebea6804e5d726272b45a12f07cdc269fb", func := "canopy/canopylaw18.ShadowSlots", spec := "shadowSlots", inPlace := ["internal/bytealg.IndexByteString", "internal/bytealg.IndexString", "slices.overlaps[int]", "slices.overlaps[uint16]"], unfollowed := true, recurses := true, named := ["unicode/utf8.first", "unicode/utf8.acceptRanges", "internal/bytealg.MaxLen"], plainKeys := false, apart := false, laid := [("unicode/utf8.acceptRanges", laid_unicode_utf8_acceptRanges), ("unicode/utf8.first", laid_unicode_utf8_first)] }
def ShadowSlotsSaid : Prop := shadowSlotsRow.holds Tryz.pinned (OpenSpec.ofChange shadowSlotsSpec)

/-- ITS FALSE NEIGHBOUR: 'it returns false'. Refute it at one input. -/
def shadowSlotsWrong : ChangeSpec := { name := "shadowSlots", fn := fun _ => fun
  | [d1, d2, d3, d4] => { results := [.lit (.bool false)], args := [d1, d2, d3, d4] }
  | _ => none }
def ShadowSlotsWrongFalsely : Prop := shadowSlotsRow.holds Tryz.pinned (OpenSpec.ofChange shadowSlotsWrong)

/-- 'canopylaw18.ShadowGives': WHATEVER THE INPUT: true; the input reads as it did. -/
def shadowGivesSpec : ChangeSpec := { name := "shadowGives", fn := fun _ => fun
  | [d1, d2, d3, d4] => { results := [.lit (.bool true)], args := [d1, d2, d3, d4] }
  | _ => none }
def shadowGivesRow : OpenClaim := { program := "ytmchghdmejbblaagreatdoor", sum := "2a95dc609258851e3c6954cb548f72ebea6804e5d726272b45a12f07cdc269fb", func := "canopy/canopylaw18.ShadowGives", spec := "shadowGives", inPlace := ["internal/bytealg.IndexByteString", "internal/bytealg.IndexString", "slices.overlaps[int]", "slices.overlaps[uint16]"], unfollowed := true, recurses := true, named := ["unicode/utf8.first", "unicode/utf8.acceptRanges", "internal/bytealg.MaxLen"], plainKeys := false, apart := false, laid := [("unicode/utf8.acceptRanges", laid_unicode_utf8_acceptRanges), ("unicode/utf8.first", laid_unicode_utf8_first)] }
def ShadowGivesSaid : Prop := shadowGivesRow.holds Tryz.pinned (OpenSpec.ofChange shadowGivesSpec)

/-- ITS FALSE NEIGHBOUR: 'it returns false'. Refute it at one input. -/
def shadowGivesWrong : ChangeSpec := { name := "shadowGives", fn := fun _ => fun
  | [d1, d2, d3, d4] => { results := [.lit (.bool false)], args := [d1, d2, d3, d4] }
  | _ => none }
def ShadowGivesWrongFalsely : Prop := shadowGivesRow.holds Tryz.pinned (OpenSpec.ofChange shadowGivesWrong)

/-- 'canopylaw18.ShadowHand': WHATEVER THE INPUT: true; the input reads as it did. -/
def shadowHandSpec : ChangeSpec := { name := "shadowHand", fn := fun _ => fun
  | [d1, d2, d3, d4] => { results := [.lit (.bool true)], args := [d1, d2, d3, d4] }
  | _ => none }
def shadowHandRow : OpenClaim := { program := "ytmchghdmejbblaagreatdoor", sum := "2a95dc609258851e3c6954cb548f72ebea6804e5d726272b45a12f07cdc269fb", func := "canopy/canopylaw18.ShadowHand", spec := "shadowHand", inPlace := ["internal/bytealg.IndexByteString", "internal/bytealg.IndexString", "slices.overlaps[int]", "slices.overlaps[uint16]"], unfollowed := true, recurses := true, named := ["unicode/utf8.first", "unicode/utf8.acceptRanges", "internal/bytealg.MaxLen"], plainKeys := false, apart := false, laid := [("unicode/utf8.acceptRanges", laid_unicode_utf8_acceptRanges), ("unicode/utf8.first", laid_unicode_utf8_first)] }
def ShadowHandSaid : Prop := shadowHandRow.holds Tryz.pinned (OpenSpec.ofChange shadowHandSpec)

/-- ITS FALSE NEIGHBOUR: 'it returns false'. Refute it at one input. -/
def shadowHandWrong : ChangeSpec := { name := "shadowHand", fn := fun _ => fun
  | [d1, d2, d3, d4] => { results := [.lit (.bool false)], args := [d1, d2, d3, d4] }
  | _ => none }
def ShadowHandWrongFalsely : Prop := shadowHandRow.holds Tryz.pinned (OpenSpec.ofChange shadowHandWrong)

/-- 'canopylaw26.ReactStacks': WHATEVER THE INPUT: true; the input reads as it did. -/
def reactStacksSpec : ChangeSpec := { name := "reactStacks", fn := fun _ => fun
  | [d] => { results := [.lit (.bool true)], args := [d] }
  | _ => none }
def reactStacksRow : OpenClaim := { program := "ytmchghdmejbblaagreatdoor", sum := "2a95dc609258851e3c6954cb548f72ebea6804e5d726272b45a12f07cdc269fb", func := "canopy/canopylaw26.ReactStacks", spec := "reactStacks", inPlace := ["internal/bytealg.IndexByteString", "internal/bytealg.IndexString", "slices.overlaps[int]", "slices.overlaps[uint16]"], unfollowed := true, recurses := true, named := ["unicode/utf8.first", "unicode/utf8.acceptRanges", "internal/bytealg.MaxLen"], plainKeys := false, apart := false, laid := [("unicode/utf8.acceptRanges", laid_unicode_utf8_acceptRanges), ("unicode/utf8.first", laid_unicode_utf8_first)] }
def ReactStacksSaid : Prop := reactStacksRow.holds Tryz.pinned (OpenSpec.ofChange reactStacksSpec)

/-- ITS FALSE NEIGHBOUR: 'it returns false'. Refute it at one input. -/
def reactStacksWrong : ChangeSpec := { name := "reactStacks", fn := fun _ => fun
  | [d] => { results := [.lit (.bool false)], args := [d] }
  | _ => none }
def ReactStacksWrongFalsely : Prop := reactStacksRow.holds Tryz.pinned (OpenSpec.ofChange reactStacksWrong)

/-- 'canopylaw26.ReactKept': WHATEVER THE INPUT: true; the input reads as it did. -/
def reactKeptSpec : ChangeSpec := { name := "reactKept", fn := fun _ => fun
  | [d1, d2, d3, d4] => { results := [.lit (.bool true)], args := [d1, d2, d3, d4] }
  | _ => none }
def reactKeptRow : OpenClaim := { program := "ytmchghdmejbblaagreatdoor", sum := "2a95dc609258851e3c6954cb548f72ebea6804e5d726272b45a12f07cdc269fb", func := "canopy/canopylaw26.ReactKept", spec := "reactKept", inPlace := ["internal/bytealg.IndexByteString", "internal/bytealg.IndexString", "slices.overlaps[int]", "slices.overlaps[uint16]"], unfollowed := true, recurses := true, named := ["unicode/utf8.first", "unicode/utf8.acceptRanges", "internal/bytealg.MaxLen"], plainKeys := false, apart := false, laid := [("unicode/utf8.acceptRanges", laid_unicode_utf8_acceptRanges), ("unicode/utf8.first", laid_unicode_utf8_first)] }
def ReactKeptSaid : Prop := reactKeptRow.holds Tryz.pinned (OpenSpec.ofChange reactKeptSpec)

/-- ITS FALSE NEIGHBOUR: 'it returns false'. Refute it at one input. -/
def reactKeptWrong : ChangeSpec := { name := "reactKept", fn := fun _ => fun
  | [d1, d2, d3, d4] => { results := [.lit (.bool false)], args := [d1, d2, d3, d4] }
  | _ => none }
def ReactKeptWrongFalsely : Prop := reactKeptRow.holds Tryz.pinned (OpenSpec.ofChange reactKeptWrong)

/-- 'canopylaw26.ReactDrained': WHATEVER THE INPUT: true; the input reads as it did. -/
def reactDrainedSpec : ChangeSpec := { name := "reactDrained", fn := fun _ => fun
  | [d] => { results := [.lit (.bool true)], args := [d] }
  | _ => none }
def reactDrainedRow : OpenClaim := { program := "ytmchghdmejbblaagreatdoor", sum := "2a95dc609258851e3c6954cb548f72ebea6804e5d726272b45a12f07cdc269fb", func := "canopy/canopylaw26.ReactDrained", spec := "reactDrained", inPlace := ["internal/bytealg.IndexByteString", "internal/bytealg.IndexString", "slices.overlaps[int]", "slices.overlaps[uint16]"], unfollowed := true, recurses := true, named := ["unicode/utf8.first", "unicode/utf8.acceptRanges", "internal/bytealg.MaxLen"], plainKeys := false, apart := false, laid := [("unicode/utf8.acceptRanges", laid_unicode_utf8_acceptRanges), ("unicode/utf8.first", laid_unicode_utf8_first)] }
def ReactDrainedSaid : Prop := reactDrainedRow.holds Tryz.pinned (OpenSpec.ofChange reactDrainedSpec)

/-- ITS FALSE NEIGHBOUR: 'it returns false'. Refute it at one input. -/
def reactDrainedWrong : ChangeSpec := { name := "reactDrained", fn := fun _ => fun
  | [d] => { results := [.lit (.bool false)], args := [d] }
  | _ => none }
def ReactDrainedWrongFalsely : Prop := reactDrainedRow.holds Tryz.pinned (OpenSpec.ofChange reactDrainedWrong)

/-- 'canopylaw26.ReactNothing': WHATEVER THE INPUT: true; the input reads as it did. -/
def reactNothingSpec : ChangeSpec := { name := "reactNothing", fn := fun _ => fun
  | [d1, d2, d3] => { results := [.lit (.bool true)], args := [d1, d2, d3] }
  | _ => none }
def reactNothingRow : OpenClaim := { program := "ytmchghdmejbblaagreatdoor", sum := "2a95dc609258851e3c6954cb548f72ebea6804e5d726272b45a12f07cdc269fb", func := "canopy/canopylaw26.ReactNothing", spec := "reactNothing", inPlace := ["internal/bytealg.IndexByteString", "internal/bytealg.IndexString", "slices.overlaps[int]", "slices.overlaps[uint16]"], unfollowed := true, recurses := true, named := ["unicode/utf8.first", "unicode/utf8.acceptRanges", "internal/bytealg.MaxLen"], plainKeys := false, apart := false, laid := [("unicode/utf8.acceptRanges", laid_unicode_utf8_acceptRanges), ("unicode/utf8.first", laid_unicode_utf8_first)] }
def ReactNothingSaid : Prop := reactNothingRow.holds Tryz.pinned (OpenSpec.ofChange reactNothingSpec)

/-- ITS FALSE NEIGHBOUR: 'it returns false'. Refute it at one input. -/
def reactNothingWrong : ChangeSpec := { name := "reactNothing", fn := fun _ => fun
  | [d1, d2, d3] => { results := [.lit (.bool false)], args := [d1, d2, d3] }
  | _ => none }
def ReactNothingWrongFalsely : Prop := reactNothingRow.holds Tryz.pinned (OpenSpec.ofChange reactNothingWrong)

/-- 'canopylaw26.ReactInOut': WHATEVER THE INPUT: true; the input reads as it did. -/
def reactInOutSpec : ChangeSpec := { name := "reactInOut", fn := fun _ => fun
  | [d1, d2, d3, d4] => { results := [.lit (.bool true)], args := [d1, d2, d3, d4] }
  | _ => none }
def reactInOutRow : OpenClaim := { program := "ytmchghdmejbblaagreatdoor", sum := "2a95dc609258851e3c6954cb548f72ebea6804e5d726272b45a12f07cdc269fb", func := "canopy/canopylaw26.ReactInOut", spec := "reactInOut", inPlace := ["internal/bytealg.IndexByteString", "internal/bytealg.IndexString", "slices.overlaps[int]", "slices.overlaps[uint16]"], unfollowed := true, recurses := true, named := ["unicode/utf8.first", "unicode/utf8.acceptRanges", "internal/bytealg.MaxLen"], plainKeys := false, apart := false, laid := [("unicode/utf8.acceptRanges", laid_unicode_utf8_acceptRanges), ("unicode/utf8.first", laid_unicode_utf8_first)] }
def ReactInOutSaid : Prop := reactInOutRow.holds Tryz.pinned (OpenSpec.ofChange reactInOutSpec)

/-- ITS FALSE NEIGHBOUR: 'it returns false'. Refute it at one input. -/
def reactInOutWrong : ChangeSpec := { name := "reactInOut", fn := fun _ => fun
  | [d1, d2, d3, d4] => { results := [.lit (.bool false)], args := [d1, d2, d3, d4] }
  | _ => none }
def ReactInOutWrongFalsely : Prop := reactInOutRow.holds Tryz.pinned (OpenSpec.ofChange reactInOutWrong)

/-- 'canopylaw26.ReactBackup': WHATEVER THE INPUT: true; the input reads as it did. -/
def reactBackupSpec : ChangeSpec := { name := "reactBackup", fn := fun _ => fun
  | [d] => { results := [.lit (.bool true)], args := [d] }
  | _ => none }
def reactBackupRow : OpenClaim := { program := "ytmchghdmejbblaagreatdoor", sum := "2a95dc609258851e3c6954cb548f72ebea6804e5d726272b45a12f07cdc269fb", func := "canopy/canopylaw26.ReactBackup", spec := "reactBackup", inPlace := ["internal/bytealg.IndexByteString", "internal/bytealg.IndexString", "slices.overlaps[int]", "slices.overlaps[uint16]"], unfollowed := true, recurses := true, named := ["unicode/utf8.first", "unicode/utf8.acceptRanges", "internal/bytealg.MaxLen"], plainKeys := false, apart := false, laid := [("unicode/utf8.acceptRanges", laid_unicode_utf8_acceptRanges), ("unicode/utf8.first", laid_unicode_utf8_first)] }
def ReactBackupSaid : Prop := reactBackupRow.holds Tryz.pinned (OpenSpec.ofChange reactBackupSpec)

/-- ITS FALSE NEIGHBOUR: 'it returns false'. Refute it at one input. -/
def reactBackupWrong : ChangeSpec := { name := "reactBackup", fn := fun _ => fun
  | [d] => { results := [.lit (.bool false)], args := [d] }
  | _ => none }
def ReactBackupWrongFalsely : Prop := reactBackupRow.holds Tryz.pinned (OpenSpec.ofChange reactBackupWrong)

/-- 'canopylaw26.ReactSeen': WHATEVER THE INPUT: true; the input reads as it did. -/
def reactSeenSpec : ChangeSpec := { name := "reactSeen", fn := fun _ => fun
  | [d1, d2, d3, d4, d5] => { results := [.lit (.bool true)], args := [d1, d2, d3, d4, d5] }
  | _ => none }
def reactSeenRow : OpenClaim := { program := "ytmchghdmejbblaagreatdoor", sum := "2a95dc609258851e3c6954cb548f72ebea6804e5d726272b45a12f07cdc269fb", func := "canopy/canopylaw26.ReactSeen", spec := "reactSeen", inPlace := ["internal/bytealg.IndexByteString", "internal/bytealg.IndexString", "slices.overlaps[int]", "slices.overlaps[uint16]"], unfollowed := true, recurses := true, named := ["unicode/utf8.first", "unicode/utf8.acceptRanges", "internal/bytealg.MaxLen"], plainKeys := false, apart := false, laid := [("unicode/utf8.acceptRanges", laid_unicode_utf8_acceptRanges), ("unicode/utf8.first", laid_unicode_utf8_first)] }
def ReactSeenSaid : Prop := reactSeenRow.holds Tryz.pinned (OpenSpec.ofChange reactSeenSpec)

/-- ITS FALSE NEIGHBOUR: 'it returns false'. Refute it at one input. -/
def reactSeenWrong : ChangeSpec := { name := "reactSeen", fn := fun _ => fun
  | [d1, d2, d3, d4, d5] => { results := [.lit (.bool false)], args := [d1, d2, d3, d4, d5] }
  | _ => none }
def ReactSeenWrongFalsely : Prop := reactSeenRow.holds Tryz.pinned (OpenSpec.ofChange reactSeenWrong)

/- THE SECOND FORM. 'bulk': how many values and letters a reading holds, each counted each time it is reached (what is shared counts as often as it is met; a slice's spare places count too). A statement '..UptoSaid' is the law's where the arguments, and the package variables that the reading takes, are together of bulk at most 1048576: NARROWER than '..Said'. Prove '..Said' where nothing that the law and all that it calls make is longer than what came in: it says more and counts as full. Else prove '..UptoSaid'. A law counts once. -/
mutual
def uptoBulk {H : Type} : DataW H → Nat
  | .lit (.string bytes) => bytes.length + 1
  | .lit _ => 1
  | .nil => 1
  | .ptr d => uptoBulk d + 1
  | .slice elems spare => uptoBulkAll elems + uptoBulkAll spare + 1
  | .agg parts => uptoBulkAll parts + 1
  | .iface _ d => uptoBulk d + 1
  | .map entries => uptoBulkEntries entries + 1
  | .held _ => 1
def uptoBulkAll {H : Type} : List (DataW H) → Nat
  | [] => 0
  | d :: r => uptoBulk d + uptoBulkAll r
def uptoBulkEntries {H : Type} : List (Lit × DataW H) → Nat
  | [] => 0
  | x :: r => uptoBulkEntry x + uptoBulkEntries r
def uptoBulkEntry {H : Type} : Lit × DataW H → Nat
  | (.string bytes, d) => bytes.length + uptoBulk d + 1
  | (_, d) => uptoBulk d + 1
 end
def uptoSmall : (H : Type) → List (DataW H) → Bool := fun _ ds => decide (uptoBulkAll ds ≤ 1048576)
def OpenSpec.upto (s : _root_.Go.ChangeSpec) : _root_.Go.OpenSpec := { _root_.Go.OpenSpec.ofChange s with cond := some uptoSmall }

/-- 'canopylaw18.ShadowOnce', WHERE WHAT IT READS IS OF BULK AT MOST 1048576: true; the input reads as it did. -/
def shadowOnceUptoRow : OpenClaim := { program := "ytmchghdmejbblaagreatdoor", sum := "2a95dc609258851e3c6954cb548f72ebea6804e5d726272b45a12f07cdc269fb", func := "canopy/canopylaw18.ShadowOnce", spec := "shadowOnce", inPlace := ["internal/bytealg.IndexByteString", "internal/bytealg.IndexString", "slices.overlaps[int]", "slices.overlaps[uint16]"], unfollowed := true, recurses := true, named := ["unicode/utf8.first", "unicode/utf8.acceptRanges", "internal/bytealg.MaxLen"], plainKeys := false, apart := false, laid := [("unicode/utf8.acceptRanges", laid_unicode_utf8_acceptRanges), ("unicode/utf8.first", laid_unicode_utf8_first)], narrowed := true }
def ShadowOnceUptoSaid : Prop := shadowOnceUptoRow.holds Tryz.pinned (OpenSpec.upto shadowOnceSpec)

/-- 'canopylaw18.ShadowSlots', WHERE WHAT IT READS IS OF BULK AT MOST 1048576: true; the input reads as it did. -/
def shadowSlotsUptoRow : OpenClaim := { program := "ytmchghdmejbblaagreatdoor", sum := "2a95dc609258851e3c6954cb548f72ebea6804e5d726272b45a12f07cdc269fb", func := "canopy/canopylaw18.ShadowSlots", spec := "shadowSlots", inPlace := ["internal/bytealg.IndexByteString", "internal/bytealg.IndexString", "slices.overlaps[int]", "slices.overlaps[uint16]"], unfollowed := true, recurses := true, named := ["unicode/utf8.first", "unicode/utf8.acceptRanges", "internal/bytealg.MaxLen"], plainKeys := false, apart := false, laid := [("unicode/utf8.acceptRanges", laid_unicode_utf8_acceptRanges), ("unicode/utf8.first", laid_unicode_utf8_first)], narrowed := true }
def ShadowSlotsUptoSaid : Prop := shadowSlotsUptoRow.holds Tryz.pinned (OpenSpec.upto shadowSlotsSpec)

/-- 'canopylaw18.ShadowGives', WHERE WHAT IT READS IS OF BULK AT MOST 1048576: true; the input reads as it did. -/
def shadowGivesUptoRow : OpenClaim := { program := "ytmchghdmejbblaagreatdoor", sum := "2a95dc609258851e3c6954cb548f72ebea6804e5d726272b45a12f07cdc269fb", func := "canopy/canopylaw18.ShadowGives", spec := "shadowGives", inPlace := ["internal/bytealg.IndexByteString", "internal/bytealg.IndexString", "slices.overlaps[int]", "slices.overlaps[uint16]"], unfollowed := true, recurses := true, named := ["unicode/utf8.first", "unicode/utf8.acceptRanges", "internal/bytealg.MaxLen"], plainKeys := false, apart := false, laid := [("unicode/utf8.acceptRanges", laid_unicode_utf8_acceptRanges), ("unicode/utf8.first", laid_unicode_utf8_first)], narrowed := true }
def ShadowGivesUptoSaid : Prop := shadowGivesUptoRow.holds Tryz.pinned (OpenSpec.upto shadowGivesSpec)

/-- 'canopylaw18.ShadowHand', WHERE WHAT IT READS IS OF BULK AT MOST 1048576: true; the input reads as it did. -/
def shadowHandUptoRow : OpenClaim := { program := "ytmchghdmejbblaagreatdoor", sum := "2a95dc609258851e3c6954cb548f72ebea6804e5d726272b45a12f07cdc269fb", func := "canopy/canopylaw18.ShadowHand", spec := "shadowHand", inPlace := ["internal/bytealg.IndexByteString", "internal/bytealg.IndexString", "slices.overlaps[int]", "slices.overlaps[uint16]"], unfollowed := true, recurses := true, named := ["unicode/utf8.first", "unicode/utf8.acceptRanges", "internal/bytealg.MaxLen"], plainKeys := false, apart := false, laid := [("unicode/utf8.acceptRanges", laid_unicode_utf8_acceptRanges), ("unicode/utf8.first", laid_unicode_utf8_first)], narrowed := true }
def ShadowHandUptoSaid : Prop := shadowHandUptoRow.holds Tryz.pinned (OpenSpec.upto shadowHandSpec)

/-- 'canopylaw26.ReactStacks', WHERE WHAT IT READS IS OF BULK AT MOST 1048576: true; the input reads as it did. -/
def reactStacksUptoRow : OpenClaim := { program := "ytmchghdmejbblaagreatdoor", sum := "2a95dc609258851e3c6954cb548f72ebea6804e5d726272b45a12f07cdc269fb", func := "canopy/canopylaw26.ReactStacks", spec := "reactStacks", inPlace := ["internal/bytealg.IndexByteString", "internal/bytealg.IndexString", "slices.overlaps[int]", "slices.overlaps[uint16]"], unfollowed := true, recurses := true, named := ["unicode/utf8.first", "unicode/utf8.acceptRanges", "internal/bytealg.MaxLen"], plainKeys := false, apart := false, laid := [("unicode/utf8.acceptRanges", laid_unicode_utf8_acceptRanges), ("unicode/utf8.first", laid_unicode_utf8_first)], narrowed := true }
def ReactStacksUptoSaid : Prop := reactStacksUptoRow.holds Tryz.pinned (OpenSpec.upto reactStacksSpec)

/-- 'canopylaw26.ReactKept', WHERE WHAT IT READS IS OF BULK AT MOST 1048576: true; the input reads as it did. -/
def reactKeptUptoRow : OpenClaim := { program := "ytmchghdmejbblaagreatdoor", sum := "2a95dc609258851e3c6954cb548f72ebea6804e5d726272b45a12f07cdc269fb", func := "canopy/canopylaw26.ReactKept", spec := "reactKept", inPlace := ["internal/bytealg.IndexByteString", "internal/bytealg.IndexString", "slices.overlaps[int]", "slices.overlaps[uint16]"], unfollowed := true, recurses := true, named := ["unicode/utf8.first", "unicode/utf8.acceptRanges", "internal/bytealg.MaxLen"], plainKeys := false, apart := false, laid := [("unicode/utf8.acceptRanges", laid_unicode_utf8_acceptRanges), ("unicode/utf8.first", laid_unicode_utf8_first)], narrowed := true }
def ReactKeptUptoSaid : Prop := reactKeptUptoRow.holds Tryz.pinned (OpenSpec.upto reactKeptSpec)

/-- 'canopylaw26.ReactDrained', WHERE WHAT IT READS IS OF BULK AT MOST 1048576: true; the input reads as it did. -/
def reactDrainedUptoRow : OpenClaim := { program := "ytmchghdmejbblaagreatdoor", sum := "2a95dc609258851e3c6954cb548f72ebea6804e5d726272b45a12f07cdc269fb", func := "canopy/canopylaw26.ReactDrained", spec := "reactDrained", inPlace := ["internal/bytealg.IndexByteString", "internal/bytealg.IndexString", "slices.overlaps[int]", "slices.overlaps[uint16]"], unfollowed := true, recurses := true, named := ["unicode/utf8.first", "unicode/utf8.acceptRanges", "internal/bytealg.MaxLen"], plainKeys := false, apart := false, laid := [("unicode/utf8.acceptRanges", laid_unicode_utf8_acceptRanges), ("unicode/utf8.first", laid_unicode_utf8_first)], narrowed := true }
def ReactDrainedUptoSaid : Prop := reactDrainedUptoRow.holds Tryz.pinned (OpenSpec.upto reactDrainedSpec)

/-- 'canopylaw26.ReactNothing', WHERE WHAT IT READS IS OF BULK AT MOST 1048576: true; the input reads as it did. -/
def reactNothingUptoRow : OpenClaim := { program := "ytmchghdmejbblaagreatdoor", sum := "2a95dc609258851e3c6954cb548f72ebea6804e5d726272b45a12f07cdc269fb", func := "canopy/canopylaw26.ReactNothing", spec := "reactNothing", inPlace := ["internal/bytealg.IndexByteString", "internal/bytealg.IndexString", "slices.overlaps[int]", "slices.overlaps[uint16]"], unfollowed := true, recurses := true, named := ["unicode/utf8.first", "unicode/utf8.acceptRanges", "internal/bytealg.MaxLen"], plainKeys := false, apart := false, laid := [("unicode/utf8.acceptRanges", laid_unicode_utf8_acceptRanges), ("unicode/utf8.first", laid_unicode_utf8_first)], narrowed := true }
def ReactNothingUptoSaid : Prop := reactNothingUptoRow.holds Tryz.pinned (OpenSpec.upto reactNothingSpec)

/-- 'canopylaw26.ReactInOut', WHERE WHAT IT READS IS OF BULK AT MOST 1048576: true; the input reads as it did. -/
def reactInOutUptoRow : OpenClaim := { program := "ytmchghdmejbblaagreatdoor", sum := "2a95dc609258851e3c6954cb548f72ebea6804e5d726272b45a12f07cdc269fb", func := "canopy/canopylaw26.ReactInOut", spec := "reactInOut", inPlace := ["internal/bytealg.IndexByteString", "internal/bytealg.IndexString", "slices.overlaps[int]", "slices.overlaps[uint16]"], unfollowed := true, recurses := true, named := ["unicode/utf8.first", "unicode/utf8.acceptRanges", "internal/bytealg.MaxLen"], plainKeys := false, apart := false, laid := [("unicode/utf8.acceptRanges", laid_unicode_utf8_acceptRanges), ("unicode/utf8.first", laid_unicode_utf8_first)], narrowed := true }
def ReactInOutUptoSaid : Prop := reactInOutUptoRow.holds Tryz.pinned (OpenSpec.upto reactInOutSpec)

/-- 'canopylaw26.ReactBackup', WHERE WHAT IT READS IS OF BULK AT MOST 1048576: true; the input reads as it did. -/
def reactBackupUptoRow : OpenClaim := { program := "ytmchghdmejbblaagreatdoor", sum := "2a95dc609258851e3c6954cb548f72ebea6804e5d726272b45a12f07cdc269fb", func := "canopy/canopylaw26.ReactBackup", spec := "reactBackup", inPlace := ["internal/bytealg.IndexByteString", "internal/bytealg.IndexString", "slices.overlaps[int]", "slices.overlaps[uint16]"], unfollowed := true, recurses := true, named := ["unicode/utf8.first", "unicode/utf8.acceptRanges", "internal/bytealg.MaxLen"], plainKeys := false, apart := false, laid := [("unicode/utf8.acceptRanges", laid_unicode_utf8_acceptRanges), ("unicode/utf8.first", laid_unicode_utf8_first)], narrowed := true }
def ReactBackupUptoSaid : Prop := reactBackupUptoRow.holds Tryz.pinned (OpenSpec.upto reactBackupSpec)

/-- 'canopylaw26.ReactSeen', WHERE WHAT IT READS IS OF BULK AT MOST 1048576: true; the input reads as it did. -/
def reactSeenUptoRow : OpenClaim := { program := "ytmchghdmejbblaagreatdoor", sum := "2a95dc609258851e3c6954cb548f72ebea6804e5d726272b45a12f07cdc269fb", func := "canopy/canopylaw26.ReactSeen", spec := "reactSeen", inPlace := ["internal/bytealg.IndexByteString", "internal/bytealg.IndexString", "slices.overlaps[int]", "slices.overlaps[uint16]"], unfollowed := true, recurses := true, named := ["unicode/utf8.first", "unicode/utf8.acceptRanges", "internal/bytealg.MaxLen"], plainKeys := false, apart := false, laid := [("unicode/utf8.acceptRanges", laid_unicode_utf8_acceptRanges), ("unicode/utf8.first", laid_unicode_utf8_first)], narrowed := true }
def ReactSeenUptoSaid : Prop := reactSeenUptoRow.holds Tryz.pinned (OpenSpec.upto reactSeenSpec)

end Rows
end Go.Proofs.YtmchghdmejbblaaGreatDoor
