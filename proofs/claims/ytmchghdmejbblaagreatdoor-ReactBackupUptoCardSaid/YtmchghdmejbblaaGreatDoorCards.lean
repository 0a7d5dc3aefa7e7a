/-
  DERIVED. GIVEN WITH THE SEED: THE CARDS: each row of YtmchghdmejbblaaGreatDoorRows.lean that lists a variable, with what it lists TIED to the program's text (the seventh form; the later family's looks); each row that meets fmt, with fmt's text TOLD by the authors' own Lean function (tested against real Go, not proved from fmt's source: count such statements apart). THE CARD IS WHAT COUNTS. Prove the row's statement (the work); the ties are given (YtmchghdmejbblaaGreatDoorTie.lean); close each card by the builder's one call (the guide's Derived/Test/ToyasCard.lean, 'card_holds'). Laid BY PROGRAM, IN A SANDBOX (cutbox-door.mjs). By AI agents, Wed Nov 11 2026. No macro, syntax, notation, axiom, sorry.
-/
import Derived.Test.YtmchghdmejbblaaGreatDoorRows
import GoSem.ClaimSeven
namespace Go.Proofs.YtmchghdmejbblaaGreatDoor
namespace Rows

/-- THE TIED CARD OF 'canopylaw18.ShadowOnce'. -/
def shadowOnceCard : Claim7 := { stood := { row := shadowOnceRow, standIns := [], harness := (true, "dc16bf6730f01d3058f7e644996226fd940b769214c008a2b161203df3f39cbc"), looks := false }, kinds := [], alts := [], laidByText := true, laidKinds := [.data, .pinned], laidTests := true, laidLooks := .later }
def ShadowOnceCardSaid : Prop := Claim7.holds Tryz.pinned (.plain (OpenSpec.ofChange shadowOnceSpec)) shadowOnceCard

/-- THE TIED CARD OF 'canopylaw18.ShadowSlots'. -/
def shadowSlotsCard : Claim7 := { stood := { row := shadowSlotsRow, standIns := [], harness := (true, "dc16bf6730f01d3058f7e644996226fd940b769214c008a2b161203df3f39cbc"), looks := false }, kinds := [], alts := [], laidByText := true, laidKinds := [.data, .pinned], laidTests := true, laidLooks := .later }
def ShadowSlotsCardSaid : Prop := Claim7.holds Tryz.pinned (.plain (OpenSpec.ofChange shadowSlotsSpec)) shadowSlotsCard

/-- THE TIED CARD OF 'canopylaw18.ShadowGives'. -/
def shadowGivesCard : Claim7 := { stood := { row := shadowGivesRow, standIns := [], harness := (true, "dc16bf6730f01d3058f7e644996226fd940b769214c008a2b161203df3f39cbc"), looks := false }, kinds := [], alts := [], laidByText := true, laidKinds := [.data, .pinned], laidTests := true, laidLooks := .later }
def ShadowGivesCardSaid : Prop := Claim7.holds Tryz.pinned (.plain (OpenSpec.ofChange shadowGivesSpec)) shadowGivesCard

/-- THE TIED CARD OF 'canopylaw18.ShadowHand'. -/
def shadowHandCard : Claim7 := { stood := { row := shadowHandRow, standIns := [], harness := (true, "dc16bf6730f01d3058f7e644996226fd940b769214c008a2b161203df3f39cbc"), looks := false }, kinds := [], alts := [], laidByText := true, laidKinds := [.data, .pinned], laidTests := true, laidLooks := .later }
def ShadowHandCardSaid : Prop := Claim7.holds Tryz.pinned (.plain (OpenSpec.ofChange shadowHandSpec)) shadowHandCard

/-- THE TIED CARD OF 'canopylaw26.ReactStacks'. -/
def reactStacksCard : Claim7 := { stood := { row := reactStacksRow, standIns := [], harness := (true, "dc16bf6730f01d3058f7e644996226fd940b769214c008a2b161203df3f39cbc"), looks := false }, kinds := [], alts := [], laidByText := true, laidKinds := [.data, .pinned], laidTests := true, laidLooks := .later }
def ReactStacksCardSaid : Prop := Claim7.holds Tryz.pinned (.plain (OpenSpec.ofChange reactStacksSpec)) reactStacksCard

/-- THE TIED CARD OF 'canopylaw26.ReactKept'. -/
def reactKeptCard : Claim7 := { stood := { row := reactKeptRow, standIns := [], harness := (true, "dc16bf6730f01d3058f7e644996226fd940b769214c008a2b161203df3f39cbc"), looks := false }, kinds := [], alts := [], laidByText := true, laidKinds := [.data, .pinned], laidTests := true, laidLooks := .later }
def ReactKeptCardSaid : Prop := Claim7.holds Tryz.pinned (.plain (OpenSpec.ofChange reactKeptSpec)) reactKeptCard

/-- THE TIED CARD OF 'canopylaw26.ReactDrained'. -/
def reactDrainedCard : Claim7 := { stood := { row := reactDrainedRow, standIns := [], harness := (true, "dc16bf6730f01d3058f7e644996226fd940b769214c008a2b161203df3f39cbc"), looks := false }, kinds := [], alts := [], laidByText := true, laidKinds := [.data, .pinned], laidTests := true, laidLooks := .later }
def ReactDrainedCardSaid : Prop := Claim7.holds Tryz.pinned (.plain (OpenSpec.ofChange reactDrainedSpec)) reactDrainedCard

/-- THE TIED CARD OF 'canopylaw26.ReactNothing'. -/
def reactNothingCard : Claim7 := { stood := { row := reactNothingRow, standIns := [], harness := (true, "dc16bf6730f01d3058f7e644996226fd940b769214c008a2b161203df3f39cbc"), looks := false }, kinds := [], alts := [], laidByText := true, laidKinds := [.data, .pinned], laidTests := true, laidLooks := .later }
def ReactNothingCardSaid : Prop := Claim7.holds Tryz.pinned (.plain (OpenSpec.ofChange reactNothingSpec)) reactNothingCard

/-- THE TIED CARD OF 'canopylaw26.ReactInOut'. -/
def reactInOutCard : Claim7 := { stood := { row := reactInOutRow, standIns := [], harness := (true, "dc16bf6730f01d3058f7e644996226fd940b769214c008a2b161203df3f39cbc"), looks := false }, kinds := [], alts := [], laidByText := true, laidKinds := [.data, .pinned], laidTests := true, laidLooks := .later }
def ReactInOutCardSaid : Prop := Claim7.holds Tryz.pinned (.plain (OpenSpec.ofChange reactInOutSpec)) reactInOutCard

/-- THE TIED CARD OF 'canopylaw26.ReactBackup'. -/
def reactBackupCard : Claim7 := { stood := { row := reactBackupRow, standIns := [], harness := (true, "dc16bf6730f01d3058f7e644996226fd940b769214c008a2b161203df3f39cbc"), looks := false }, kinds := [], alts := [], laidByText := true, laidKinds := [.data, .pinned], laidTests := true, laidLooks := .later }
def ReactBackupCardSaid : Prop := Claim7.holds Tryz.pinned (.plain (OpenSpec.ofChange reactBackupSpec)) reactBackupCard

/-- THE TIED CARD OF 'canopylaw26.ReactSeen'. -/
def reactSeenCard : Claim7 := { stood := { row := reactSeenRow, standIns := [], harness := (true, "dc16bf6730f01d3058f7e644996226fd940b769214c008a2b161203df3f39cbc"), looks := false }, kinds := [], alts := [], laidByText := true, laidKinds := [.data, .pinned], laidTests := true, laidLooks := .later }
def ReactSeenCardSaid : Prop := Claim7.holds Tryz.pinned (.plain (OpenSpec.ofChange reactSeenSpec)) reactSeenCard

/-- THE SECOND FORM's CARD OF 'canopylaw18.ShadowOnce'. -/
def shadowOnceUptoCard : Claim7 := { stood := { row := shadowOnceUptoRow, standIns := [], harness := (true, "dc16bf6730f01d3058f7e644996226fd940b769214c008a2b161203df3f39cbc"), looks := false }, kinds := [], alts := [], laidByText := true, laidKinds := [.data, .pinned], laidTests := true, laidLooks := .later }
def ShadowOnceUptoCardSaid : Prop := Claim7.holds Tryz.pinned (.plain (OpenSpec.upto shadowOnceSpec)) shadowOnceUptoCard

/-- THE SECOND FORM's CARD OF 'canopylaw18.ShadowSlots'. -/
def shadowSlotsUptoCard : Claim7 := { stood := { row := shadowSlotsUptoRow, standIns := [], harness := (true, "dc16bf6730f01d3058f7e644996226fd940b769214c008a2b161203df3f39cbc"), looks := false }, kinds := [], alts := [], laidByText := true, laidKinds := [.data, .pinned], laidTests := true, laidLooks := .later }
def ShadowSlotsUptoCardSaid : Prop := Claim7.holds Tryz.pinned (.plain (OpenSpec.upto shadowSlotsSpec)) shadowSlotsUptoCard

/-- THE SECOND FORM's CARD OF 'canopylaw18.ShadowGives'. -/
def shadowGivesUptoCard : Claim7 := { stood := { row := shadowGivesUptoRow, standIns := [], harness := (true, "dc16bf6730f01d3058f7e644996226fd940b769214c008a2b161203df3f39cbc"), looks := false }, kinds := [], alts := [], laidByText := true, laidKinds := [.data, .pinned], laidTests := true, laidLooks := .later }
def ShadowGivesUptoCardSaid : Prop := Claim7.holds Tryz.pinned (.plain (OpenSpec.upto shadowGivesSpec)) shadowGivesUptoCard

/-- THE SECOND FORM's CARD OF 'canopylaw18.ShadowHand'. -/
def shadowHandUptoCard : Claim7 := { stood := { row := shadowHandUptoRow, standIns := [], harness := (true, "dc16bf6730f01d3058f7e644996226fd940b769214c008a2b161203df3f39cbc"), looks := false }, kinds := [], alts := [], laidByText := true, laidKinds := [.data, .pinned], laidTests := true, laidLooks := .later }
def ShadowHandUptoCardSaid : Prop := Claim7.holds Tryz.pinned (.plain (OpenSpec.upto shadowHandSpec)) shadowHandUptoCard

/-- THE SECOND FORM's CARD OF 'canopylaw26.ReactStacks'. -/
def reactStacksUptoCard : Claim7 := { stood := { row := reactStacksUptoRow, standIns := [], harness := (true, "dc16bf6730f01d3058f7e644996226fd940b769214c008a2b161203df3f39cbc"), looks := false }, kinds := [], alts := [], laidByText := true, laidKinds := [.data, .pinned], laidTests := true, laidLooks := .later }
def ReactStacksUptoCardSaid : Prop := Claim7.holds Tryz.pinned (.plain (OpenSpec.upto reactStacksSpec)) reactStacksUptoCard

/-- THE SECOND FORM's CARD OF 'canopylaw26.ReactKept'. -/
def reactKeptUptoCard : Claim7 := { stood := { row := reactKeptUptoRow, standIns := [], harness := (true, "dc16bf6730f01d3058f7e644996226fd940b769214c008a2b161203df3f39cbc"), looks := false }, kinds := [], alts := [], laidByText := true, laidKinds := [.data, .pinned], laidTests := true, laidLooks := .later }
def ReactKeptUptoCardSaid : Prop := Claim7.holds Tryz.pinned (.plain (OpenSpec.upto reactKeptSpec)) reactKeptUptoCard

/-- THE SECOND FORM's CARD OF 'canopylaw26.ReactDrained'. -/
def reactDrainedUptoCard : Claim7 := { stood := { row := reactDrainedUptoRow, standIns := [], harness := (true, "dc16bf6730f01d3058f7e644996226fd940b769214c008a2b161203df3f39cbc"), looks := false }, kinds := [], alts := [], laidByText := true, laidKinds := [.data, .pinned], laidTests := true, laidLooks := .later }
def ReactDrainedUptoCardSaid : Prop := Claim7.holds Tryz.pinned (.plain (OpenSpec.upto reactDrainedSpec)) reactDrainedUptoCard

/-- THE SECOND FORM's CARD OF 'canopylaw26.ReactNothing'. -/
def reactNothingUptoCard : Claim7 := { stood := { row := reactNothingUptoRow, standIns := [], harness := (true, "dc16bf6730f01d3058f7e644996226fd940b769214c008a2b161203df3f39cbc"), looks := false }, kinds := [], alts := [], laidByText := true, laidKinds := [.data, .pinned], laidTests := true, laidLooks := .later }
def ReactNothingUptoCardSaid : Prop := Claim7.holds Tryz.pinned (.plain (OpenSpec.upto reactNothingSpec)) reactNothingUptoCard

/-- THE SECOND FORM's CARD OF 'canopylaw26.ReactInOut'. -/
def reactInOutUptoCard : Claim7 := { stood := { row := reactInOutUptoRow, standIns := [], harness := (true, "dc16bf6730f01d3058f7e644996226fd940b769214c008a2b161203df3f39cbc"), looks := false }, kinds := [], alts := [], laidByText := true, laidKinds := [.data, .pinned], laidTests := true, laidLooks := .later }
def ReactInOutUptoCardSaid : Prop := Claim7.holds Tryz.pinned (.plain (OpenSpec.upto reactInOutSpec)) reactInOutUptoCard

/-- THE SECOND FORM's CARD OF 'canopylaw26.ReactBackup'. -/
def reactBackupUptoCard : Claim7 := { stood := { row := reactBackupUptoRow, standIns := [], harness := (true, "dc16bf6730f01d3058f7e644996226fd940b769214c008a2b161203df3f39cbc"), looks := false }, kinds := [], alts := [], laidByText := true, laidKinds := [.data, .pinned], laidTests := true, laidLooks := .later }
def ReactBackupUptoCardSaid : Prop := Claim7.holds Tryz.pinned (.plain (OpenSpec.upto reactBackupSpec)) reactBackupUptoCard

/-- THE SECOND FORM's CARD OF 'canopylaw26.ReactSeen'. -/
def reactSeenUptoCard : Claim7 := { stood := { row := reactSeenUptoRow, standIns := [], harness := (true, "dc16bf6730f01d3058f7e644996226fd940b769214c008a2b161203df3f39cbc"), looks := false }, kinds := [], alts := [], laidByText := true, laidKinds := [.data, .pinned], laidTests := true, laidLooks := .later }
def ReactSeenUptoCardSaid : Prop := Claim7.holds Tryz.pinned (.plain (OpenSpec.upto reactSeenSpec)) reactSeenUptoCard
end Rows
end Go.Proofs.YtmchghdmejbblaaGreatDoor
