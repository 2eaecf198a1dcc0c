/-
  DERIVED. GIVEN WITH THE SEED: THE CARDS: each row of YtgbkobkiomeokaaGreatDoorRows.lean that lists a variable, with what it lists TIED to the program's text (the seventh form; the later family's looks); each row that meets fmt, with fmt's text TOLD by the authors' own Lean function (tested against real Go, not proved from fmt's source: count such statements apart). THE CARD IS WHAT COUNTS. Prove the row's statement (the work); the ties are given (YtgbkobkiomeokaaGreatDoorTie.lean); close each card by the builder's one call (the guide's Derived/Test/ToyasCard.lean, 'card_holds'). Laid BY PROGRAM, IN A SANDBOX (cutbox-door.mjs). By AI agents, Wed Nov 11 2026. No macro, syntax, notation, axiom, sorry.
-/
import Derived.Test.YtgbkobkiomeokaaGreatDoorRows
import GoSem.ClaimSeven
namespace Go.Proofs.YtgbkobkiomeokaaGreatDoor
namespace Rows

/-- THE TIED CARD OF 'spinneylaw14.RedblackOf'. -/
def redblackOfCard : Claim7 := { stood := { row := redblackOfRow, standIns := [], harness := (true, "b191b45cfa70d0c501ff06079483bf3944dba24bbce301af1a28b2b139a836ae"), looks := false }, kinds := [], alts := [], laidByText := true, laidKinds := [.data, .pinned], laidTests := true, laidLooks := .later }
def RedblackOfCardSaid : Prop := Claim7.holds Tryz.pinned (.plain (OpenSpec.ofChange redblackOfSpec)) redblackOfCard

/-- THE SECOND FORM's CARD OF 'spinneylaw14.RedblackOf'. -/
def redblackOfUptoCard : Claim7 := { stood := { row := redblackOfUptoRow, standIns := [], harness := (true, "b191b45cfa70d0c501ff06079483bf3944dba24bbce301af1a28b2b139a836ae"), looks := false }, kinds := [], alts := [], laidByText := true, laidKinds := [.data, .pinned], laidTests := true, laidLooks := .later }
def RedblackOfUptoCardSaid : Prop := Claim7.holds Tryz.pinned (.plain (OpenSpec.upto redblackOfSpec)) redblackOfUptoCard
end Rows
end Go.Proofs.YtgbkobkiomeokaaGreatDoor
