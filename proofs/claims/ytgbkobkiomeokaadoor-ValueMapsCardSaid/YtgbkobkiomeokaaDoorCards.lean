/-
  DERIVED. GIVEN WITH THE SEED: THE CARDS: each row of YtgbkobkiomeokaaDoorRows.lean that lists a variable, with what it lists TIED to the program's text (the seventh form; the later family's looks); each row that meets fmt, with fmt's text TOLD by the authors' own Lean function (tested against real Go, not proved from fmt's source: count such statements apart). THE CARD IS WHAT COUNTS. Prove the row's statement (the work); the ties are given (YtgbkobkiomeokaaDoorTie.lean); close each card by the builder's one call (the guide's Derived/Test/ToyasCard.lean, 'card_holds'). Laid BY PROGRAM, IN A SANDBOX (cutbox-door.mjs). By AI agents, Wed Nov 11 2026. No macro, syntax, notation, axiom, sorry.
-/
import Derived.Test.YtgbkobkiomeokaaDoorRows
import GoSem.ClaimSeven
namespace Go.Proofs.YtgbkobkiomeokaaDoor
namespace Rows

/-- THE TIED CARD OF 'spinneylaw01.ValueMaps'. -/
def valueMapsCard : Claim7 := { stood := { row := valueMapsRow, standIns := [], harness := (true, "44c55b1a0e1a2de984d9537d3c7f646081bcc01bc82feeb43a0bd0752a98a827"), looks := false }, kinds := [], alts := [], laidByText := true, laidKinds := [.data, .pinned], laidTests := true, laidLooks := .later }
def ValueMapsCardSaid : Prop := Claim7.holds Tryd.pinned (.plain (OpenSpec.ofChange valueMapsSpec)) valueMapsCard

/-- THE SECOND FORM's CARD OF 'spinneylaw01.ValueMaps'. -/
def valueMapsUptoCard : Claim7 := { stood := { row := valueMapsUptoRow, standIns := [], harness := (true, "44c55b1a0e1a2de984d9537d3c7f646081bcc01bc82feeb43a0bd0752a98a827"), looks := false }, kinds := [], alts := [], laidByText := true, laidKinds := [.data, .pinned], laidTests := true, laidLooks := .later }
def ValueMapsUptoCardSaid : Prop := Claim7.holds Tryd.pinned (.plain (OpenSpec.upto valueMapsSpec)) valueMapsUptoCard
end Rows
end Go.Proofs.YtgbkobkiomeokaaDoor
