/-
  DERIVED. GIVEN WITH THE SEED: THE CARDS: each row of YtbdopmcjoncelaaGreatDoorRows.lean that lists a variable, with what it lists TIED to the program's text (the seventh form; the later family's looks); each row that meets fmt, with fmt's text TOLD by the authors' own Lean function (tested against real Go, not proved from fmt's source: count such statements apart). THE CARD IS WHAT COUNTS. Prove the row's statement (the work); the ties are given (YtbdopmcjoncelaaGreatDoorTie.lean); close each card by the builder's one call (the guide's Derived/Test/ToyasCard.lean, 'card_holds'). Laid BY PROGRAM, IN A SANDBOX (cutbox-door.mjs). By AI agents, Wed Nov 11 2026. No macro, syntax, notation, axiom, sorry.
-/
import Derived.Test.YtbdopmcjoncelaaGreatDoorRows
import GoSem.ClaimSeven
namespace Go.Proofs.YtbdopmcjoncelaaGreatDoor
namespace Rows

/-- THE TIED CARD OF 'laws.FnTunes'. -/
def fnTunesCard : Claim7 := { stood := { row := fnTunesRow, standIns := [], harness := (true, "5c4dc6ce3db3ba346c876856a5e4af5517e00bbc1e839e2c6f81ca6d09d00b3a"), looks := true }, kinds := [], alts := [], laidByText := true, laidKinds := [.data, .data, .data, .data, .sentinel, .sentinel, .pinned], laidTests := true, laidLooks := .later }
def FnTunesCardSaid : Prop := Claim7.holds Tryz.pinned (.plain (OpenSpec.ofChange fnTunesSpec)) fnTunesCard

/-- THE SECOND FORM's CARD OF 'laws.FnTunes'. -/
def fnTunesUptoCard : Claim7 := { stood := { row := fnTunesUptoRow, standIns := [], harness := (true, "5c4dc6ce3db3ba346c876856a5e4af5517e00bbc1e839e2c6f81ca6d09d00b3a"), looks := true }, kinds := [], alts := [], laidByText := true, laidKinds := [.data, .data, .data, .data, .sentinel, .sentinel, .pinned], laidTests := true, laidLooks := .later }
def FnTunesUptoCardSaid : Prop := Claim7.holds Tryz.pinned (.plain (OpenSpec.upto fnTunesSpec)) fnTunesUptoCard
end Rows
end Go.Proofs.YtbdopmcjoncelaaGreatDoor
