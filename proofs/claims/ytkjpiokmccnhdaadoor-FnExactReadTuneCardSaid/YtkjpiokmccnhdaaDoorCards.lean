/-
  DERIVED. GIVEN WITH THE SEED: THE CARDS: each row of YtkjpiokmccnhdaaDoorRows.lean that lists a variable, with what it lists TIED to the program's text (the seventh form; the later family's looks); each row that meets fmt, with fmt's text TOLD by the authors' own Lean function (tested against real Go, not proved from fmt's source: count such statements apart). THE CARD IS WHAT COUNTS. Prove the row's statement (the work); the ties are given (YtkjpiokmccnhdaaDoorTie.lean); close each card by the builder's one call (the guide's Derived/Test/ToyasCard.lean, 'card_holds'). Laid BY PROGRAM, IN A SANDBOX (cutbox-door.mjs). By AI agents, Wed Nov 11 2026. No macro, syntax, notation, axiom, sorry.
-/
import Derived.Test.YtkjpiokmccnhdaaDoorRows
import GoSem.ClaimSeven
namespace Go.Proofs.YtkjpiokmccnhdaaDoor
namespace Rows

/-- THE TIED CARD OF 'laws.FnExactReadFrame'. -/
def fnExactReadFrameCard : Claim7 := { stood := { row := fnExactReadFrameRow, standIns := [], harness := (true, "372ade598f50b72169eca84fd63f028f2abef8ad6bc77edf02b293c8f4700de0"), looks := true }, kinds := [], alts := [], laidByText := true, laidKinds := [.data, .data, .data, .data, .sentinel, .sentinel, .pinned], laidTests := true, laidLooks := .later }
def FnExactReadFrameCardSaid : Prop := Claim7.holds Tryd.pinned (.plain (OpenSpec.ofChange fnExactReadFrameSpec)) fnExactReadFrameCard

/-- THE TIED CARD OF 'laws.FnExactReadTune'. -/
def fnExactReadTuneCard : Claim7 := { stood := { row := fnExactReadTuneRow, standIns := [], harness := (true, "372ade598f50b72169eca84fd63f028f2abef8ad6bc77edf02b293c8f4700de0"), looks := true }, kinds := [], alts := [], laidByText := true, laidKinds := [.data, .data, .data, .data, .sentinel, .sentinel, .pinned], laidTests := true, laidLooks := .later }
def FnExactReadTuneCardSaid : Prop := Claim7.holds Tryd.pinned (.plain (OpenSpec.ofChange fnExactReadTuneSpec)) fnExactReadTuneCard

/-- THE SECOND FORM's CARD OF 'laws.FnExactReadFrame'. -/
def fnExactReadFrameUptoCard : Claim7 := { stood := { row := fnExactReadFrameUptoRow, standIns := [], harness := (true, "372ade598f50b72169eca84fd63f028f2abef8ad6bc77edf02b293c8f4700de0"), looks := true }, kinds := [], alts := [], laidByText := true, laidKinds := [.data, .data, .data, .data, .sentinel, .sentinel, .pinned], laidTests := true, laidLooks := .later }
def FnExactReadFrameUptoCardSaid : Prop := Claim7.holds Tryd.pinned (.plain (OpenSpec.upto fnExactReadFrameSpec)) fnExactReadFrameUptoCard

/-- THE SECOND FORM's CARD OF 'laws.FnExactReadTune'. -/
def fnExactReadTuneUptoCard : Claim7 := { stood := { row := fnExactReadTuneUptoRow, standIns := [], harness := (true, "372ade598f50b72169eca84fd63f028f2abef8ad6bc77edf02b293c8f4700de0"), looks := true }, kinds := [], alts := [], laidByText := true, laidKinds := [.data, .data, .data, .data, .sentinel, .sentinel, .pinned], laidTests := true, laidLooks := .later }
def FnExactReadTuneUptoCardSaid : Prop := Claim7.holds Tryd.pinned (.plain (OpenSpec.upto fnExactReadTuneSpec)) fnExactReadTuneUptoCard
end Rows
end Go.Proofs.YtkjpiokmccnhdaaDoor
