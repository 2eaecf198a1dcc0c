/-
  DERIVED. GIVEN WITH THE SEED: THE CARDS: each row of YtgekmpfoihidpaaGreatDoorRows.lean that lists a variable, with what it lists TIED to the program's text (the seventh form; the later family's looks); each row that meets fmt, with fmt's text TOLD by the authors' own Lean function (tested against real Go, not proved from fmt's source: count such statements apart). THE CARD IS WHAT COUNTS. Prove the row's statement (the work); the ties are given (YtgekmpfoihidpaaGreatDoorTie.lean); close each card by the builder's one call (the guide's Derived/Test/ToyasCard.lean, 'card_holds'). Laid BY PROGRAM, IN A SANDBOX (cutbox-door.mjs). By AI agents, Wed Nov 11 2026. No macro, syntax, notation, axiom, sorry.
-/
import Derived.Test.YtgekmpfoihidpaaGreatDoorRows
import GoSem.ClaimSeven
namespace Go.Proofs.YtgekmpfoihidpaaGreatDoor
namespace Rows

/-- THE TIED CARD OF 'spinneylaw14.RedblackBoth'. -/
def redblackBothCard : Claim7 := { stood := { row := redblackBothRow, standIns := [], harness := (true, "479144bcac2854905e63c3063a92101f18907fca4d38008cb5674aaeeb688434"), looks := false }, kinds := [], alts := [], laidByText := true, laidKinds := [.data, .pinned], laidTests := true, laidLooks := .later }
def RedblackBothCardSaid : Prop := Claim7.holds Tryz.pinned (.plain (OpenSpec.ofChange redblackBothSpec)) redblackBothCard

/-- THE TIED CARD OF 'spinneylaw16.SsetBoth'. -/
def ssetBothCard : Claim7 := { stood := { row := ssetBothRow, standIns := [], harness := (true, "479144bcac2854905e63c3063a92101f18907fca4d38008cb5674aaeeb688434"), looks := false }, kinds := [], alts := [], laidByText := true, laidKinds := [.data, .pinned], laidTests := true, laidLooks := .later }
def SsetBothCardSaid : Prop := Claim7.holds Tryz.pinned (.plain (OpenSpec.ofChange ssetBothSpec)) ssetBothCard

/-- THE TIED CARD OF 'spinneylaw16.SsetLaws'. -/
def ssetLawsCard : Claim7 := { stood := { row := ssetLawsRow, standIns := [], harness := (true, "479144bcac2854905e63c3063a92101f18907fca4d38008cb5674aaeeb688434"), looks := false }, kinds := [], alts := [], laidByText := true, laidKinds := [.data, .pinned], laidTests := true, laidLooks := .later }
def SsetLawsCardSaid : Prop := Claim7.holds Tryz.pinned (.plain (OpenSpec.ofChange ssetLawsSpec)) ssetLawsCard

/-- THE TIED CARD OF 'spinneylaw16.SsetAsked'. -/
def ssetAskedCard : Claim7 := { stood := { row := ssetAskedRow, standIns := [], harness := (true, "479144bcac2854905e63c3063a92101f18907fca4d38008cb5674aaeeb688434"), looks := false }, kinds := [], alts := [], laidByText := true, laidKinds := [.data, .pinned], laidTests := true, laidLooks := .later }
def SsetAskedCardSaid : Prop := Claim7.holds Tryz.pinned (.plain (OpenSpec.ofChange ssetAskedSpec)) ssetAskedCard

/-- THE TIED CARD OF 'spinneylaw16.SsetSteps'. -/
def ssetStepsCard : Claim7 := { stood := { row := ssetStepsRow, standIns := [], harness := (true, "479144bcac2854905e63c3063a92101f18907fca4d38008cb5674aaeeb688434"), looks := false }, kinds := [], alts := [], laidByText := true, laidKinds := [.data, .pinned], laidTests := true, laidLooks := .later }
def SsetStepsCardSaid : Prop := Claim7.holds Tryz.pinned (.plain (OpenSpec.ofChange ssetStepsSpec)) ssetStepsCard

/-- THE TIED CARD OF 'spinneylaw14.RedblackOf'. -/
def redblackOfCard : Claim7 := { stood := { row := redblackOfRow, standIns := [], harness := (true, "479144bcac2854905e63c3063a92101f18907fca4d38008cb5674aaeeb688434"), looks := false }, kinds := [], alts := [], laidByText := true, laidKinds := [.data, .pinned], laidTests := true, laidLooks := .later }
def RedblackOfCardSaid : Prop := Claim7.holds Tryz.pinned (.plain (OpenSpec.ofChange redblackOfSpec)) redblackOfCard

/-- THE TIED CARD OF 'spinneylaw16.SsetOf'. -/
def ssetOfCard : Claim7 := { stood := { row := ssetOfRow, standIns := [], harness := (true, "479144bcac2854905e63c3063a92101f18907fca4d38008cb5674aaeeb688434"), looks := false }, kinds := [], alts := [], laidByText := true, laidKinds := [.data, .pinned], laidTests := true, laidLooks := .later }
def SsetOfCardSaid : Prop := Claim7.holds Tryz.pinned (.plain (OpenSpec.ofChange ssetOfSpec)) ssetOfCard

/-- THE SECOND FORM's CARD OF 'spinneylaw14.RedblackBoth'. -/
def redblackBothUptoCard : Claim7 := { stood := { row := redblackBothUptoRow, standIns := [], harness := (true, "479144bcac2854905e63c3063a92101f18907fca4d38008cb5674aaeeb688434"), looks := false }, kinds := [], alts := [], laidByText := true, laidKinds := [.data, .pinned], laidTests := true, laidLooks := .later }
def RedblackBothUptoCardSaid : Prop := Claim7.holds Tryz.pinned (.plain (OpenSpec.upto redblackBothSpec)) redblackBothUptoCard

/-- THE SECOND FORM's CARD OF 'spinneylaw16.SsetBoth'. -/
def ssetBothUptoCard : Claim7 := { stood := { row := ssetBothUptoRow, standIns := [], harness := (true, "479144bcac2854905e63c3063a92101f18907fca4d38008cb5674aaeeb688434"), looks := false }, kinds := [], alts := [], laidByText := true, laidKinds := [.data, .pinned], laidTests := true, laidLooks := .later }
def SsetBothUptoCardSaid : Prop := Claim7.holds Tryz.pinned (.plain (OpenSpec.upto ssetBothSpec)) ssetBothUptoCard

/-- THE SECOND FORM's CARD OF 'spinneylaw16.SsetLaws'. -/
def ssetLawsUptoCard : Claim7 := { stood := { row := ssetLawsUptoRow, standIns := [], harness := (true, "479144bcac2854905e63c3063a92101f18907fca4d38008cb5674aaeeb688434"), looks := false }, kinds := [], alts := [], laidByText := true, laidKinds := [.data, .pinned], laidTests := true, laidLooks := .later }
def SsetLawsUptoCardSaid : Prop := Claim7.holds Tryz.pinned (.plain (OpenSpec.upto ssetLawsSpec)) ssetLawsUptoCard

/-- THE SECOND FORM's CARD OF 'spinneylaw16.SsetAsked'. -/
def ssetAskedUptoCard : Claim7 := { stood := { row := ssetAskedUptoRow, standIns := [], harness := (true, "479144bcac2854905e63c3063a92101f18907fca4d38008cb5674aaeeb688434"), looks := false }, kinds := [], alts := [], laidByText := true, laidKinds := [.data, .pinned], laidTests := true, laidLooks := .later }
def SsetAskedUptoCardSaid : Prop := Claim7.holds Tryz.pinned (.plain (OpenSpec.upto ssetAskedSpec)) ssetAskedUptoCard

/-- THE SECOND FORM's CARD OF 'spinneylaw16.SsetSteps'. -/
def ssetStepsUptoCard : Claim7 := { stood := { row := ssetStepsUptoRow, standIns := [], harness := (true, "479144bcac2854905e63c3063a92101f18907fca4d38008cb5674aaeeb688434"), looks := false }, kinds := [], alts := [], laidByText := true, laidKinds := [.data, .pinned], laidTests := true, laidLooks := .later }
def SsetStepsUptoCardSaid : Prop := Claim7.holds Tryz.pinned (.plain (OpenSpec.upto ssetStepsSpec)) ssetStepsUptoCard

/-- THE SECOND FORM's CARD OF 'spinneylaw14.RedblackOf'. -/
def redblackOfUptoCard : Claim7 := { stood := { row := redblackOfUptoRow, standIns := [], harness := (true, "479144bcac2854905e63c3063a92101f18907fca4d38008cb5674aaeeb688434"), looks := false }, kinds := [], alts := [], laidByText := true, laidKinds := [.data, .pinned], laidTests := true, laidLooks := .later }
def RedblackOfUptoCardSaid : Prop := Claim7.holds Tryz.pinned (.plain (OpenSpec.upto redblackOfSpec)) redblackOfUptoCard

/-- THE SECOND FORM's CARD OF 'spinneylaw16.SsetOf'. -/
def ssetOfUptoCard : Claim7 := { stood := { row := ssetOfUptoRow, standIns := [], harness := (true, "479144bcac2854905e63c3063a92101f18907fca4d38008cb5674aaeeb688434"), looks := false }, kinds := [], alts := [], laidByText := true, laidKinds := [.data, .pinned], laidTests := true, laidLooks := .later }
def SsetOfUptoCardSaid : Prop := Claim7.holds Tryz.pinned (.plain (OpenSpec.upto ssetOfSpec)) ssetOfUptoCard
end Rows
end Go.Proofs.YtgekmpfoihidpaaGreatDoor
