/-
  DERIVED. GIVEN WITH THE SEED: THE CARDS: each row of YtkdochfiaccnpaaDoorRows.lean that lists a variable, with what it lists TIED to the program's text (the seventh form; the later family's looks); each row that meets fmt, with fmt's text TOLD by the authors' own Lean function (tested against real Go, not proved from fmt's source: count such statements apart). THE CARD IS WHAT COUNTS. Prove the row's statement (the work); the ties are given (YtkdochfiaccnpaaDoorTie.lean); close each card by the builder's one call (the guide's Derived/Test/ToyasCard.lean, 'card_holds'). Laid BY PROGRAM, IN A SANDBOX (cutbox-door.mjs). By AI agents, Wed Nov 11 2026. No macro, syntax, notation, axiom, sorry.
-/
import Derived.Test.YtkdochfiaccnpaaDoorRows
import GoSem.ClaimSeven
namespace Go.Proofs.YtkdochfiaccnpaaDoor
namespace Rows

/-- THE TIED CARD OF 'laws.FnExactPitchName'. -/
def fnExactPitchNameCard : Claim7 := { stood := { row := fnExactPitchNameRow, standIns := [], harness := (true, "327044051a54c245e37f794e62ad774c0db03810075deb1934bbbae8653f43b1"), looks := false }, kinds := [], alts := [], laidByText := true, laidKinds := [.data, .data, .data], laidTests := true, laidLooks := .later }
def FnExactPitchNameCardSaid : Prop := Claim7.holds Tryd.pinned (.plain (OpenSpec.ofChange fnExactPitchNameSpec)) fnExactPitchNameCard

/-- THE TIED CARD OF 'laws.FnExactTuneText'. -/
def fnExactTuneTextCard : Claim7 := { stood := { row := fnExactTuneTextRow, standIns := [], harness := (true, "327044051a54c245e37f794e62ad774c0db03810075deb1934bbbae8653f43b1"), looks := false }, kinds := [], alts := [], laidByText := true, laidKinds := [.data, .data, .data], laidTests := true, laidLooks := .later }
def FnExactTuneTextCardSaid : Prop := Claim7.holds Tryd.pinned (.plain (OpenSpec.ofChange fnExactTuneTextSpec)) fnExactTuneTextCard

/-- THE TIED CARD OF 'laws.FnExactFrameText'. -/
def fnExactFrameTextCard : Claim7 := { stood := { row := fnExactFrameTextRow, standIns := [], harness := (true, "327044051a54c245e37f794e62ad774c0db03810075deb1934bbbae8653f43b1"), looks := false }, kinds := [], alts := [], laidByText := true, laidKinds := [.data, .data, .data], laidTests := true, laidLooks := .later }
def FnExactFrameTextCardSaid : Prop := Claim7.holds Tryd.pinned (.plain (OpenSpec.ofChange fnExactFrameTextSpec)) fnExactFrameTextCard

/-- THE SECOND FORM's CARD OF 'laws.FnExactPitchName'. -/
def fnExactPitchNameUptoCard : Claim7 := { stood := { row := fnExactPitchNameUptoRow, standIns := [], harness := (true, "327044051a54c245e37f794e62ad774c0db03810075deb1934bbbae8653f43b1"), looks := false }, kinds := [], alts := [], laidByText := true, laidKinds := [.data, .data, .data], laidTests := true, laidLooks := .later }
def FnExactPitchNameUptoCardSaid : Prop := Claim7.holds Tryd.pinned (.plain (OpenSpec.upto fnExactPitchNameSpec)) fnExactPitchNameUptoCard

/-- THE SECOND FORM's CARD OF 'laws.FnExactTuneText'. -/
def fnExactTuneTextUptoCard : Claim7 := { stood := { row := fnExactTuneTextUptoRow, standIns := [], harness := (true, "327044051a54c245e37f794e62ad774c0db03810075deb1934bbbae8653f43b1"), looks := false }, kinds := [], alts := [], laidByText := true, laidKinds := [.data, .data, .data], laidTests := true, laidLooks := .later }
def FnExactTuneTextUptoCardSaid : Prop := Claim7.holds Tryd.pinned (.plain (OpenSpec.upto fnExactTuneTextSpec)) fnExactTuneTextUptoCard

/-- THE SECOND FORM's CARD OF 'laws.FnExactFrameText'. -/
def fnExactFrameTextUptoCard : Claim7 := { stood := { row := fnExactFrameTextUptoRow, standIns := [], harness := (true, "327044051a54c245e37f794e62ad774c0db03810075deb1934bbbae8653f43b1"), looks := false }, kinds := [], alts := [], laidByText := true, laidKinds := [.data, .data, .data], laidTests := true, laidLooks := .later }
def FnExactFrameTextUptoCardSaid : Prop := Claim7.holds Tryd.pinned (.plain (OpenSpec.upto fnExactFrameTextSpec)) fnExactFrameTextUptoCard
end Rows
end Go.Proofs.YtkdochfiaccnpaaDoor
