/-
  DERIVED. GIVEN WITH THE SEED: THE CARDS: each row of YtkbaoibplojjlaaDoorRows.lean that lists a variable, with what it lists TIED to the program's text (the seventh form; the later family's looks); each row that meets fmt, with fmt's text TOLD by the authors' own Lean function (tested against real Go, not proved from fmt's source: count such statements apart). THE CARD IS WHAT COUNTS. Prove the row's statement (the work); the ties are given (YtkbaoibplojjlaaDoorTie.lean); close each card by the builder's one call (the guide's Derived/Test/ToyasCard.lean, 'card_holds'). Laid BY PROGRAM, IN A SANDBOX (cutbox-door.mjs). By AI agents, Wed Nov 11 2026. No macro, syntax, notation, axiom, sorry.
-/
import Derived.Test.YtkbaoibplojjlaaDoorRows
import GoSem.ClaimSeven
namespace Go.Proofs.YtkbaoibplojjlaaDoor
namespace Rows

/-- THE TIED CARD OF 'spinneylaw15.RangesPlace'. -/
def rangesPlaceCard : Claim7 := { stood := { row := rangesPlaceRow, standIns := [], harness := (true, "1bdf9355f45839e8525a8950f3aaf21a22e38797bc75e1d008fbdf615837f8b2"), looks := false }, kinds := [], alts := [], laidByText := true, laidKinds := [.data, .pinned], laidTests := true, laidLooks := .later }
def RangesPlaceCardSaid : Prop := Claim7.holds Tryd.pinned (.plain (OpenSpec.ofChange rangesPlaceSpec)) rangesPlaceCard

/-- THE TIED CARD OF 'spinneylaw15.RangesNext'. -/
def rangesNextCard : Claim7 := { stood := { row := rangesNextRow, standIns := [], harness := (true, "1bdf9355f45839e8525a8950f3aaf21a22e38797bc75e1d008fbdf615837f8b2"), looks := false }, kinds := [], alts := [], laidByText := true, laidKinds := [.data, .pinned], laidTests := true, laidLooks := .later }
def RangesNextCardSaid : Prop := Claim7.holds Tryd.pinned (.plain (OpenSpec.ofChange rangesNextSpec)) rangesNextCard

/-- THE TIED CARD OF 'spinneylaw14.RedblackMany'. -/
def redblackManyCard : Claim7 := { stood := { row := redblackManyRow, standIns := [], harness := (true, "1bdf9355f45839e8525a8950f3aaf21a22e38797bc75e1d008fbdf615837f8b2"), looks := false }, kinds := [], alts := [], laidByText := true, laidKinds := [.data, .pinned], laidTests := true, laidLooks := .later }
def RedblackManyCardSaid : Prop := Claim7.holds Tryd.pinned (.plain (OpenSpec.ofChange redblackManySpec)) redblackManyCard

/-- THE TIED CARD OF 'spinneylaw14.RedblackStays'. -/
def redblackStaysCard : Claim7 := { stood := { row := redblackStaysRow, standIns := [], harness := (true, "1bdf9355f45839e8525a8950f3aaf21a22e38797bc75e1d008fbdf615837f8b2"), looks := false }, kinds := [], alts := [], laidByText := true, laidKinds := [.data, .pinned], laidTests := true, laidLooks := .later }
def RedblackStaysCardSaid : Prop := Claim7.holds Tryd.pinned (.plain (OpenSpec.ofChange redblackStaysSpec)) redblackStaysCard

/-- THE SECOND FORM's CARD OF 'spinneylaw15.RangesPlace'. -/
def rangesPlaceUptoCard : Claim7 := { stood := { row := rangesPlaceUptoRow, standIns := [], harness := (true, "1bdf9355f45839e8525a8950f3aaf21a22e38797bc75e1d008fbdf615837f8b2"), looks := false }, kinds := [], alts := [], laidByText := true, laidKinds := [.data, .pinned], laidTests := true, laidLooks := .later }
def RangesPlaceUptoCardSaid : Prop := Claim7.holds Tryd.pinned (.plain (OpenSpec.upto rangesPlaceSpec)) rangesPlaceUptoCard

/-- THE SECOND FORM's CARD OF 'spinneylaw15.RangesNext'. -/
def rangesNextUptoCard : Claim7 := { stood := { row := rangesNextUptoRow, standIns := [], harness := (true, "1bdf9355f45839e8525a8950f3aaf21a22e38797bc75e1d008fbdf615837f8b2"), looks := false }, kinds := [], alts := [], laidByText := true, laidKinds := [.data, .pinned], laidTests := true, laidLooks := .later }
def RangesNextUptoCardSaid : Prop := Claim7.holds Tryd.pinned (.plain (OpenSpec.upto rangesNextSpec)) rangesNextUptoCard

/-- THE SECOND FORM's CARD OF 'spinneylaw14.RedblackMany'. -/
def redblackManyUptoCard : Claim7 := { stood := { row := redblackManyUptoRow, standIns := [], harness := (true, "1bdf9355f45839e8525a8950f3aaf21a22e38797bc75e1d008fbdf615837f8b2"), looks := false }, kinds := [], alts := [], laidByText := true, laidKinds := [.data, .pinned], laidTests := true, laidLooks := .later }
def RedblackManyUptoCardSaid : Prop := Claim7.holds Tryd.pinned (.plain (OpenSpec.upto redblackManySpec)) redblackManyUptoCard

/-- THE SECOND FORM's CARD OF 'spinneylaw14.RedblackStays'. -/
def redblackStaysUptoCard : Claim7 := { stood := { row := redblackStaysUptoRow, standIns := [], harness := (true, "1bdf9355f45839e8525a8950f3aaf21a22e38797bc75e1d008fbdf615837f8b2"), looks := false }, kinds := [], alts := [], laidByText := true, laidKinds := [.data, .pinned], laidTests := true, laidLooks := .later }
def RedblackStaysUptoCardSaid : Prop := Claim7.holds Tryd.pinned (.plain (OpenSpec.upto redblackStaysSpec)) redblackStaysUptoCard
end Rows
end Go.Proofs.YtkbaoibplojjlaaDoor
