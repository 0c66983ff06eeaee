/-
  DERIVED. GIVEN WITH THE SEED: THE CARDS: each row of YtimffallbjpcjaaGreatDoorRows.lean that lists a variable, with what it lists TIED to the program's text (the seventh form; the later family's looks); each row that meets fmt, with fmt's text TOLD by the authors' own Lean function (tested against real Go, not proved from fmt's source: count such statements apart). THE CARD IS WHAT COUNTS. Prove the row's statement (the work); the ties are given (YtimffallbjpcjaaGreatDoorTie.lean); close each card by the builder's one call (the guide's Derived/Test/ToyasCard.lean, 'card_holds'). Laid BY PROGRAM, IN A SANDBOX (cutbox-door.mjs). By AI agents, Wed Nov 11 2026. No macro, syntax, notation, axiom, sorry.
-/
import Derived.Test.YtimffallbjpcjaaGreatDoorRows
import GoSem.ClaimSeven
namespace Go.Proofs.YtimffallbjpcjaaGreatDoor
namespace Rows

/-- THE TIED CARD OF 'laws.FnEvents'. -/
def fnEventsCard : Claim7 := { stood := { row := fnEventsRow, standIns := [], harness := (true, "2bc4984ccecf247d2b1dcb0a805f12475aa399441ee8908788156a978a3c85aa"), looks := true }, kinds := [], alts := [], laidByText := true, laidKinds := [.data, .data, .data, .data, .sentinel, .sentinel, .pinned], laidTests := true, laidLooks := .later }
def FnEventsCardSaid : Prop := Claim7.holds Tryz.pinned (.plain (OpenSpec.ofChange fnEventsSpec)) fnEventsCard

/-- THE SECOND FORM's CARD OF 'laws.FnEvents'. -/
def fnEventsUptoCard : Claim7 := { stood := { row := fnEventsUptoRow, standIns := [], harness := (true, "2bc4984ccecf247d2b1dcb0a805f12475aa399441ee8908788156a978a3c85aa"), looks := true }, kinds := [], alts := [], laidByText := true, laidKinds := [.data, .data, .data, .data, .sentinel, .sentinel, .pinned], laidTests := true, laidLooks := .later }
def FnEventsUptoCardSaid : Prop := Claim7.holds Tryz.pinned (.plain (OpenSpec.upto fnEventsSpec)) fnEventsUptoCard
end Rows
end Go.Proofs.YtimffallbjpcjaaGreatDoor
