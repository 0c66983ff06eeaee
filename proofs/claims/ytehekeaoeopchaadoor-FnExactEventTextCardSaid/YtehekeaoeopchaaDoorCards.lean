/-
  DERIVED. GIVEN WITH THE SEED: THE CARDS: each row of YtehekeaoeopchaaDoorRows.lean that lists a variable, with what it lists TIED to the program's text (the seventh form; the later family's looks); each row that meets fmt, with fmt's text TOLD by the authors' own Lean function (tested against real Go, not proved from fmt's source: count such statements apart). THE CARD IS WHAT COUNTS. Prove the row's statement (the work); the ties are given (YtehekeaoeopchaaDoorTie.lean); close each card by the builder's one call (the guide's Derived/Test/ToyasCard.lean, 'card_holds'). Laid BY PROGRAM, IN A SANDBOX (cutbox-door.mjs). By AI agents, Wed Nov 11 2026. No macro, syntax, notation, axiom, sorry.
-/
import Derived.Test.YtehekeaoeopchaaDoorRows
import GoSem.ClaimSeven
namespace Go.Proofs.YtehekeaoeopchaaDoor
namespace Rows

/-- THE TIED CARD OF 'laws.FnExactEventText'. -/
def fnExactEventTextCard : Claim7 := { stood := { row := fnExactEventTextRow, standIns := [], harness := (true, "ce1ee9c9940c510777568b0a155d52bc82507938852dcbca3e3e59e313ba508f"), looks := false }, kinds := [], alts := [], laidByText := true, laidKinds := [.data, .data, .data], laidTests := true, laidLooks := .later }
def FnExactEventTextCardSaid : Prop := Claim7.holds Tryd.pinned (.plain (OpenSpec.ofChange fnExactEventTextSpec)) fnExactEventTextCard

/-- THE SECOND FORM's CARD OF 'laws.FnExactEventText'. -/
def fnExactEventTextUptoCard : Claim7 := { stood := { row := fnExactEventTextUptoRow, standIns := [], harness := (true, "ce1ee9c9940c510777568b0a155d52bc82507938852dcbca3e3e59e313ba508f"), looks := false }, kinds := [], alts := [], laidByText := true, laidKinds := [.data, .data, .data], laidTests := true, laidLooks := .later }
def FnExactEventTextUptoCardSaid : Prop := Claim7.holds Tryd.pinned (.plain (OpenSpec.upto fnExactEventTextSpec)) fnExactEventTextUptoCard
end Rows
end Go.Proofs.YtehekeaoeopchaaDoor
