/-
  DERIVED. GIVEN WITH THE SEED: THE CARDS: each row of YtdgodofdnaligaaDoorRows.lean that lists a variable, with what it lists TIED to the program's text (the seventh form; the later family's looks); each row that meets fmt, with fmt's text TOLD by the authors' own Lean function (tested against real Go, not proved from fmt's source: count such statements apart). THE CARD IS WHAT COUNTS. Prove the row's statement (the work); the ties are given (YtdgodofdnaligaaDoorTie.lean); close each card by the builder's one call (the guide's Derived/Test/ToyasCard.lean, 'card_holds'). Laid BY PROGRAM, IN A SANDBOX (cutbox-door.mjs). By AI agents, Wed Nov 11 2026. No macro, syntax, notation, axiom, sorry.
-/
import Derived.Test.YtdgodofdnaligaaDoorRows
import GoSem.ClaimSeven
namespace Go.Proofs.YtdgodofdnaligaaDoor
namespace Rows

/-- THE TIED CARD OF 'spinneylaw07.ChampNil'. -/
def champNilCard : Claim7 := { stood := { row := champNilRow, standIns := [], harness := (true, "cf70ca4fe9751772f2b0e09d9e2b18c3ea0a40ce8339683f10ce06412706eefd"), looks := false }, kinds := [], alts := [], laidByText := true, laidKinds := [.data, .pinned], laidTests := true, laidLooks := .later }
def ChampNilCardSaid : Prop := Claim7.holds Tryd.pinned (.plain (OpenSpec.ofChange champNilSpec)) champNilCard

/-- THE TIED CARD OF 'spinneylaw07.ChampForm'. -/
def champFormCard : Claim7 := { stood := { row := champFormRow, standIns := [], harness := (true, "cf70ca4fe9751772f2b0e09d9e2b18c3ea0a40ce8339683f10ce06412706eefd"), looks := false }, kinds := [], alts := [], laidByText := true, laidKinds := [.data, .pinned], laidTests := true, laidLooks := .later }
def ChampFormCardSaid : Prop := Claim7.holds Tryd.pinned (.plain (OpenSpec.ofChange champFormSpec)) champFormCard

/-- THE SECOND FORM's CARD OF 'spinneylaw07.ChampNil'. -/
def champNilUptoCard : Claim7 := { stood := { row := champNilUptoRow, standIns := [], harness := (true, "cf70ca4fe9751772f2b0e09d9e2b18c3ea0a40ce8339683f10ce06412706eefd"), looks := false }, kinds := [], alts := [], laidByText := true, laidKinds := [.data, .pinned], laidTests := true, laidLooks := .later }
def ChampNilUptoCardSaid : Prop := Claim7.holds Tryd.pinned (.plain (OpenSpec.upto champNilSpec)) champNilUptoCard

/-- THE SECOND FORM's CARD OF 'spinneylaw07.ChampForm'. -/
def champFormUptoCard : Claim7 := { stood := { row := champFormUptoRow, standIns := [], harness := (true, "cf70ca4fe9751772f2b0e09d9e2b18c3ea0a40ce8339683f10ce06412706eefd"), looks := false }, kinds := [], alts := [], laidByText := true, laidKinds := [.data, .pinned], laidTests := true, laidLooks := .later }
def ChampFormUptoCardSaid : Prop := Claim7.holds Tryd.pinned (.plain (OpenSpec.upto champFormSpec)) champFormUptoCard
end Rows
end Go.Proofs.YtdgodofdnaligaaDoor
