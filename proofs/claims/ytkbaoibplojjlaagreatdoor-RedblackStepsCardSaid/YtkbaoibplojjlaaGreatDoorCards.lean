/-
  DERIVED. GIVEN WITH THE SEED: THE CARDS: each row of YtkbaoibplojjlaaGreatDoorRows.lean that lists a variable, with what it lists TIED to the program's text (the seventh form; the later family's looks); each row that meets fmt, with fmt's text TOLD by the authors' own Lean function (tested against real Go, not proved from fmt's source: count such statements apart). THE CARD IS WHAT COUNTS. Prove the row's statement (the work); the ties are given (YtkbaoibplojjlaaGreatDoorTie.lean); close each card by the builder's one call (the guide's Derived/Test/ToyasCard.lean, 'card_holds'). Laid BY PROGRAM, IN A SANDBOX (cutbox-door.mjs). By AI agents, Wed Nov 11 2026. No macro, syntax, notation, axiom, sorry.
-/
import Derived.Test.YtkbaoibplojjlaaGreatDoorRows
import GoSem.ClaimSeven
namespace Go.Proofs.YtkbaoibplojjlaaGreatDoor
namespace Rows

/-- THE TIED CARD OF 'spinneylaw14.RedblackBoth'. -/
def redblackBothCard : Claim7 := { stood := { row := redblackBothRow, standIns := [], harness := (true, "6ad8d7ffa23eee9b28e234ae4a7b5c401d21d1fdadcfe6484ae72e18fd29aec5"), looks := false }, kinds := [], alts := [], laidByText := true, laidKinds := [.data, .pinned], laidTests := true, laidLooks := .later }
def RedblackBothCardSaid : Prop := Claim7.holds Tryz.pinned (.plain (OpenSpec.ofChange redblackBothSpec)) redblackBothCard

/-- THE TIED CARD OF 'spinneylaw15.RangesNear'. -/
def rangesNearCard : Claim7 := { stood := { row := rangesNearRow, standIns := [], harness := (true, "6ad8d7ffa23eee9b28e234ae4a7b5c401d21d1fdadcfe6484ae72e18fd29aec5"), looks := false }, kinds := [], alts := [], laidByText := true, laidKinds := [.data, .pinned], laidTests := true, laidLooks := .later }
def RangesNearCardSaid : Prop := Claim7.holds Tryz.pinned (.plain (OpenSpec.ofChange rangesNearSpec)) rangesNearCard

/-- THE TIED CARD OF 'spinneylaw15.RangesRank'. -/
def rangesRankCard : Claim7 := { stood := { row := rangesRankRow, standIns := [], harness := (true, "6ad8d7ffa23eee9b28e234ae4a7b5c401d21d1fdadcfe6484ae72e18fd29aec5"), looks := false }, kinds := [], alts := [], laidByText := true, laidKinds := [.data, .pinned], laidTests := true, laidLooks := .later }
def RangesRankCardSaid : Prop := Claim7.holds Tryz.pinned (.plain (OpenSpec.ofChange rangesRankSpec)) rangesRankCard

/-- THE TIED CARD OF 'spinneylaw14.RedblackSteps'. -/
def redblackStepsCard : Claim7 := { stood := { row := redblackStepsRow, standIns := [], harness := (true, "6ad8d7ffa23eee9b28e234ae4a7b5c401d21d1fdadcfe6484ae72e18fd29aec5"), looks := false }, kinds := [], alts := [], laidByText := true, laidKinds := [.data, .pinned], laidTests := true, laidLooks := .later }
def RedblackStepsCardSaid : Prop := Claim7.holds Tryz.pinned (.plain (OpenSpec.ofChange redblackStepsSpec)) redblackStepsCard

/-- THE TIED CARD OF 'spinneylaw15.RangesBetween'. -/
def rangesBetweenCard : Claim7 := { stood := { row := rangesBetweenRow, standIns := [], harness := (true, "6ad8d7ffa23eee9b28e234ae4a7b5c401d21d1fdadcfe6484ae72e18fd29aec5"), looks := false }, kinds := [], alts := [], laidByText := true, laidKinds := [.data, .pinned], laidTests := true, laidLooks := .later }
def RangesBetweenCardSaid : Prop := Claim7.holds Tryz.pinned (.plain (OpenSpec.ofChange rangesBetweenSpec)) rangesBetweenCard

/-- THE TIED CARD OF 'spinneylaw14.RedblackOf'. -/
def redblackOfCard : Claim7 := { stood := { row := redblackOfRow, standIns := [], harness := (true, "6ad8d7ffa23eee9b28e234ae4a7b5c401d21d1fdadcfe6484ae72e18fd29aec5"), looks := false }, kinds := [], alts := [], laidByText := true, laidKinds := [.data, .pinned], laidTests := true, laidLooks := .later }
def RedblackOfCardSaid : Prop := Claim7.holds Tryz.pinned (.plain (OpenSpec.ofChange redblackOfSpec)) redblackOfCard

/-- THE SECOND FORM's CARD OF 'spinneylaw14.RedblackBoth'. -/
def redblackBothUptoCard : Claim7 := { stood := { row := redblackBothUptoRow, standIns := [], harness := (true, "6ad8d7ffa23eee9b28e234ae4a7b5c401d21d1fdadcfe6484ae72e18fd29aec5"), looks := false }, kinds := [], alts := [], laidByText := true, laidKinds := [.data, .pinned], laidTests := true, laidLooks := .later }
def RedblackBothUptoCardSaid : Prop := Claim7.holds Tryz.pinned (.plain (OpenSpec.upto redblackBothSpec)) redblackBothUptoCard

/-- THE SECOND FORM's CARD OF 'spinneylaw15.RangesNear'. -/
def rangesNearUptoCard : Claim7 := { stood := { row := rangesNearUptoRow, standIns := [], harness := (true, "6ad8d7ffa23eee9b28e234ae4a7b5c401d21d1fdadcfe6484ae72e18fd29aec5"), looks := false }, kinds := [], alts := [], laidByText := true, laidKinds := [.data, .pinned], laidTests := true, laidLooks := .later }
def RangesNearUptoCardSaid : Prop := Claim7.holds Tryz.pinned (.plain (OpenSpec.upto rangesNearSpec)) rangesNearUptoCard

/-- THE SECOND FORM's CARD OF 'spinneylaw15.RangesRank'. -/
def rangesRankUptoCard : Claim7 := { stood := { row := rangesRankUptoRow, standIns := [], harness := (true, "6ad8d7ffa23eee9b28e234ae4a7b5c401d21d1fdadcfe6484ae72e18fd29aec5"), looks := false }, kinds := [], alts := [], laidByText := true, laidKinds := [.data, .pinned], laidTests := true, laidLooks := .later }
def RangesRankUptoCardSaid : Prop := Claim7.holds Tryz.pinned (.plain (OpenSpec.upto rangesRankSpec)) rangesRankUptoCard

/-- THE SECOND FORM's CARD OF 'spinneylaw14.RedblackSteps'. -/
def redblackStepsUptoCard : Claim7 := { stood := { row := redblackStepsUptoRow, standIns := [], harness := (true, "6ad8d7ffa23eee9b28e234ae4a7b5c401d21d1fdadcfe6484ae72e18fd29aec5"), looks := false }, kinds := [], alts := [], laidByText := true, laidKinds := [.data, .pinned], laidTests := true, laidLooks := .later }
def RedblackStepsUptoCardSaid : Prop := Claim7.holds Tryz.pinned (.plain (OpenSpec.upto redblackStepsSpec)) redblackStepsUptoCard

/-- THE SECOND FORM's CARD OF 'spinneylaw15.RangesBetween'. -/
def rangesBetweenUptoCard : Claim7 := { stood := { row := rangesBetweenUptoRow, standIns := [], harness := (true, "6ad8d7ffa23eee9b28e234ae4a7b5c401d21d1fdadcfe6484ae72e18fd29aec5"), looks := false }, kinds := [], alts := [], laidByText := true, laidKinds := [.data, .pinned], laidTests := true, laidLooks := .later }
def RangesBetweenUptoCardSaid : Prop := Claim7.holds Tryz.pinned (.plain (OpenSpec.upto rangesBetweenSpec)) rangesBetweenUptoCard

/-- THE SECOND FORM's CARD OF 'spinneylaw14.RedblackOf'. -/
def redblackOfUptoCard : Claim7 := { stood := { row := redblackOfUptoRow, standIns := [], harness := (true, "6ad8d7ffa23eee9b28e234ae4a7b5c401d21d1fdadcfe6484ae72e18fd29aec5"), looks := false }, kinds := [], alts := [], laidByText := true, laidKinds := [.data, .pinned], laidTests := true, laidLooks := .later }
def RedblackOfUptoCardSaid : Prop := Claim7.holds Tryz.pinned (.plain (OpenSpec.upto redblackOfSpec)) redblackOfUptoCard
end Rows
end Go.Proofs.YtkbaoibplojjlaaGreatDoor
