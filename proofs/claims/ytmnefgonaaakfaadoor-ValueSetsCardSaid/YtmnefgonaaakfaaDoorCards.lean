/-
  DERIVED. GIVEN WITH THE SEED: THE CARDS: each row of YtmnefgonaaakfaaDoorRows.lean that lists a variable, with what it lists TIED to the program's text (the seventh form; the later family's looks); each row that meets fmt, with fmt's text TOLD by the authors' own Lean function (tested against real Go, not proved from fmt's source: count such statements apart). THE CARD IS WHAT COUNTS. Prove the row's statement (the work); the ties are given (YtmnefgonaaakfaaDoorTie.lean); close each card by the builder's one call (the guide's Derived/Test/ToyasCard.lean, 'card_holds'). Laid BY PROGRAM, IN A SANDBOX (cutbox-door.mjs). By AI agents, Wed Nov 11 2026. No macro, syntax, notation, axiom, sorry.
-/
import Derived.Test.YtmnefgonaaakfaaDoorRows
import GoSem.ClaimSeven
namespace Go.Proofs.YtmnefgonaaakfaaDoor
namespace Rows

/-- THE TIED CARD OF 'spinneylaw01.ValueLine'. -/
def valueLineCard : Claim7 := { stood := { row := valueLineRow, standIns := [], harness := (true, "980e02b139ffc34ce29985ccfb95327c4ce8878e9daeee5995dbcca9ae166c3f"), looks := false }, kinds := [], alts := [], laidByText := true, laidKinds := [.data, .pinned], laidTests := true, laidLooks := .later }
def ValueLineCardSaid : Prop := Claim7.holds Tryd.pinned (.plain (OpenSpec.ofChange valueLineSpec)) valueLineCard

/-- THE TIED CARD OF 'spinneylaw01.ValueTurned'. -/
def valueTurnedCard : Claim7 := { stood := { row := valueTurnedRow, standIns := [], harness := (true, "980e02b139ffc34ce29985ccfb95327c4ce8878e9daeee5995dbcca9ae166c3f"), looks := false }, kinds := [], alts := [], laidByText := true, laidKinds := [.data, .pinned], laidTests := true, laidLooks := .later }
def ValueTurnedCardSaid : Prop := Claim7.holds Tryd.pinned (.plain (OpenSpec.ofChange valueTurnedSpec)) valueTurnedCard

/-- THE TIED CARD OF 'spinneylaw01.ValueRight'. -/
def valueRightCard : Claim7 := { stood := { row := valueRightRow, standIns := [], harness := (true, "980e02b139ffc34ce29985ccfb95327c4ce8878e9daeee5995dbcca9ae166c3f"), looks := false }, kinds := [], alts := [], laidByText := true, laidKinds := [.data, .pinned], laidTests := true, laidLooks := .later }
def ValueRightCardSaid : Prop := Claim7.holds Tryd.pinned (.plain (OpenSpec.ofChange valueRightSpec)) valueRightCard

/-- THE TIED CARD OF 'spinneylaw01.ValueSets'. -/
def valueSetsCard : Claim7 := { stood := { row := valueSetsRow, standIns := [], harness := (true, "980e02b139ffc34ce29985ccfb95327c4ce8878e9daeee5995dbcca9ae166c3f"), looks := false }, kinds := [], alts := [], laidByText := true, laidKinds := [.data, .pinned], laidTests := true, laidLooks := .later }
def ValueSetsCardSaid : Prop := Claim7.holds Tryd.pinned (.plain (OpenSpec.ofChange valueSetsSpec)) valueSetsCard

/-- THE TIED CARD OF 'spinneylaw01.ValueOwn'. -/
def valueOwnCard : Claim7 := { stood := { row := valueOwnRow, standIns := [], harness := (true, "980e02b139ffc34ce29985ccfb95327c4ce8878e9daeee5995dbcca9ae166c3f"), looks := false }, kinds := [], alts := [], laidByText := true, laidKinds := [.data, .pinned], laidTests := true, laidLooks := .later }
def ValueOwnCardSaid : Prop := Claim7.holds Tryd.pinned (.plain (OpenSpec.ofChange valueOwnSpec)) valueOwnCard

/-- THE TIED CARD OF 'spinneylaw01.ValueMaps'. -/
def valueMapsCard : Claim7 := { stood := { row := valueMapsRow, standIns := [], harness := (true, "980e02b139ffc34ce29985ccfb95327c4ce8878e9daeee5995dbcca9ae166c3f"), looks := false }, kinds := [], alts := [], laidByText := true, laidKinds := [.data, .pinned], laidTests := true, laidLooks := .later }
def ValueMapsCardSaid : Prop := Claim7.holds Tryd.pinned (.plain (OpenSpec.ofChange valueMapsSpec)) valueMapsCard

/-- THE SECOND FORM's CARD OF 'spinneylaw01.ValueLine'. -/
def valueLineUptoCard : Claim7 := { stood := { row := valueLineUptoRow, standIns := [], harness := (true, "980e02b139ffc34ce29985ccfb95327c4ce8878e9daeee5995dbcca9ae166c3f"), looks := false }, kinds := [], alts := [], laidByText := true, laidKinds := [.data, .pinned], laidTests := true, laidLooks := .later }
def ValueLineUptoCardSaid : Prop := Claim7.holds Tryd.pinned (.plain (OpenSpec.upto valueLineSpec)) valueLineUptoCard

/-- THE SECOND FORM's CARD OF 'spinneylaw01.ValueTurned'. -/
def valueTurnedUptoCard : Claim7 := { stood := { row := valueTurnedUptoRow, standIns := [], harness := (true, "980e02b139ffc34ce29985ccfb95327c4ce8878e9daeee5995dbcca9ae166c3f"), looks := false }, kinds := [], alts := [], laidByText := true, laidKinds := [.data, .pinned], laidTests := true, laidLooks := .later }
def ValueTurnedUptoCardSaid : Prop := Claim7.holds Tryd.pinned (.plain (OpenSpec.upto valueTurnedSpec)) valueTurnedUptoCard

/-- THE SECOND FORM's CARD OF 'spinneylaw01.ValueRight'. -/
def valueRightUptoCard : Claim7 := { stood := { row := valueRightUptoRow, standIns := [], harness := (true, "980e02b139ffc34ce29985ccfb95327c4ce8878e9daeee5995dbcca9ae166c3f"), looks := false }, kinds := [], alts := [], laidByText := true, laidKinds := [.data, .pinned], laidTests := true, laidLooks := .later }
def ValueRightUptoCardSaid : Prop := Claim7.holds Tryd.pinned (.plain (OpenSpec.upto valueRightSpec)) valueRightUptoCard

/-- THE SECOND FORM's CARD OF 'spinneylaw01.ValueSets'. -/
def valueSetsUptoCard : Claim7 := { stood := { row := valueSetsUptoRow, standIns := [], harness := (true, "980e02b139ffc34ce29985ccfb95327c4ce8878e9daeee5995dbcca9ae166c3f"), looks := false }, kinds := [], alts := [], laidByText := true, laidKinds := [.data, .pinned], laidTests := true, laidLooks := .later }
def ValueSetsUptoCardSaid : Prop := Claim7.holds Tryd.pinned (.plain (OpenSpec.upto valueSetsSpec)) valueSetsUptoCard

/-- THE SECOND FORM's CARD OF 'spinneylaw01.ValueOwn'. -/
def valueOwnUptoCard : Claim7 := { stood := { row := valueOwnUptoRow, standIns := [], harness := (true, "980e02b139ffc34ce29985ccfb95327c4ce8878e9daeee5995dbcca9ae166c3f"), looks := false }, kinds := [], alts := [], laidByText := true, laidKinds := [.data, .pinned], laidTests := true, laidLooks := .later }
def ValueOwnUptoCardSaid : Prop := Claim7.holds Tryd.pinned (.plain (OpenSpec.upto valueOwnSpec)) valueOwnUptoCard

/-- THE SECOND FORM's CARD OF 'spinneylaw01.ValueMaps'. -/
def valueMapsUptoCard : Claim7 := { stood := { row := valueMapsUptoRow, standIns := [], harness := (true, "980e02b139ffc34ce29985ccfb95327c4ce8878e9daeee5995dbcca9ae166c3f"), looks := false }, kinds := [], alts := [], laidByText := true, laidKinds := [.data, .pinned], laidTests := true, laidLooks := .later }
def ValueMapsUptoCardSaid : Prop := Claim7.holds Tryd.pinned (.plain (OpenSpec.upto valueMapsSpec)) valueMapsUptoCard
end Rows
end Go.Proofs.YtmnefgonaaakfaaDoor
