/-
  NARROWER THAN 'FOR EVERY INPUT', by the rows' own cells (each row's printed sentence says how): RedblackBoth: loops, laid · SsetBoth: loops, laid · SsetLaws: loops, laid · SsetAsked: loops, laid · SsetSteps: loops, laid · RedblackOf: loops, laid · SsetOf: loops, laid.
  DERIVED. THE GIVEN ROWS OF THIS SEAT. 7 by the template 'for every input the law returns true; each argument reads behind the call as it read before'; 0 by the template 'total and deterministic' (their statements: YtgekmpfoihidpaaGreatDoorTotals.lean).
  GIVEN WITH THE SEED: the statements are not yours to turn. If you find one false, say at which input.
  Laid BY PROGRAM, IN A SANDBOX (cutbox-rows.mjs): the forced cells as the released guide's own fill.sh prints them over the translation 5e3f902c77018a61… (all of the seat's roots in one cut). By AI agents, Wed Nov 11 2026. No macro, syntax, notation, axiom, sorry.
-/
import Derived.Test.YtgekmpfoihidpaaGreatDoorChecked
import GoSem.PinnedTables
import GoSem.Claim
import GoSem.ClaimJoined
import GoSem.ClaimMapViews
import Derived.JoinedTies
import Derived.KernelRfl
namespace Go.Proofs.YtgekmpfoihidpaaGreatDoor
/- THE CELL 'sum', in the pinned program and in every row, IS THE sha256 OF THE DUMP (.gsa) THAT YtgekmpfoihidpaaGreatDoorProg.lean LOADS. Nothing in Lean hashes anything: it is a label: what it is worth is what the hold of that sum in a sandbox is worth. -/
noncomputable def Tryz.pinned : Pinned := { name := "ytgekmpfoihidpaagreatdoor", sum := "5e3f902c77018a61b4454818a96d2197fc506927bc30636124e4886db60e859e", checked := Tryz.checked }
namespace Rows
def none {H : Type} : Left H := { results := [], args := [] }

/- WHAT THE LISTED PACKAGE-LEVEL VARIABLES READ AS WHEN THE CALL BEGINS. Each datum BY PROGRAM (the guide's laid-datum.mjs) off the statement by which the dump's own 'gosem.cut.vars' lays the variable. In a bare row this is a premise. The card (YtgekmpfoihidpaaGreatDoorCards.lean) ties it to the program's text. -/
def laid_unicode_utf8_acceptRanges {H : Type} : DataW H := .agg [.agg [.lit (.int .u8 128), .lit (.int .u8 191)], .agg [.lit (.int .u8 160), .lit (.int .u8 191)], .agg [.lit (.int .u8 128), .lit (.int .u8 159)], .agg [.lit (.int .u8 144), .lit (.int .u8 191)], .agg [.lit (.int .u8 128), .lit (.int .u8 143)], .agg [.lit (.int .u8 0), .lit (.int .u8 0)], .agg [.lit (.int .u8 0), .lit (.int .u8 0)], .agg [.lit (.int .u8 0), .lit (.int .u8 0)], .agg [.lit (.int .u8 0), .lit (.int .u8 0)], .agg [.lit (.int .u8 0), .lit (.int .u8 0)], .agg [.lit (.int .u8 0), .lit (.int .u8 0)], .agg [.lit (.int .u8 0), .lit (.int .u8 0)], .agg [.lit (.int .u8 0), .lit (.int .u8 0)], .agg [.lit (.int .u8 0), .lit (.int .u8 0)], .agg [.lit (.int .u8 0), .lit (.int .u8 0)], .agg [.lit (.int .u8 0), .lit (.int .u8 0)]]
/-- One of Go's own tables, pinned by name: the form's constant. -/
def laid_unicode_utf8_first : DataW Unit := Go.Pinned.utf8First

/-- 'spinneylaw14.RedblackBoth': WHATEVER THE INPUT: true; the input reads as it did. -/
def redblackBothSpec : ChangeSpec := { name := "redblackBoth", fn := fun _ => fun
  | [d] => { results := [.lit (.bool true)], args := [d] }
  | _ => none }
def redblackBothRow : OpenClaim := { program := "ytgekmpfoihidpaagreatdoor", sum := "5e3f902c77018a61b4454818a96d2197fc506927bc30636124e4886db60e859e", func := "spinney/spinneylaw14.RedblackBoth", spec := "redblackBoth", inPlace := ["internal/bytealg.abigen_runtime_cmpstring"], unfollowed := true, recurses := true, named := ["unicode/utf8.first", "unicode/utf8.acceptRanges"], loops := true, apart := false, laid := [("unicode/utf8.acceptRanges", laid_unicode_utf8_acceptRanges), ("unicode/utf8.first", laid_unicode_utf8_first)] }
def RedblackBothSaid : Prop := redblackBothRow.holds Tryz.pinned (OpenSpec.ofChange redblackBothSpec)

/-- ITS FALSE NEIGHBOUR: 'it returns false'. Refute it at one input. -/
def redblackBothWrong : ChangeSpec := { name := "redblackBoth", fn := fun _ => fun
  | [d] => { results := [.lit (.bool false)], args := [d] }
  | _ => none }
def RedblackBothWrongFalsely : Prop := redblackBothRow.holds Tryz.pinned (OpenSpec.ofChange redblackBothWrong)

/-- 'spinneylaw16.SsetBoth': WHATEVER THE INPUT: true; the input reads as it did. -/
def ssetBothSpec : ChangeSpec := { name := "ssetBoth", fn := fun _ => fun
  | [d] => { results := [.lit (.bool true)], args := [d] }
  | _ => none }
def ssetBothRow : OpenClaim := { program := "ytgekmpfoihidpaagreatdoor", sum := "5e3f902c77018a61b4454818a96d2197fc506927bc30636124e4886db60e859e", func := "spinney/spinneylaw16.SsetBoth", spec := "ssetBoth", inPlace := ["internal/bytealg.abigen_runtime_cmpstring"], unfollowed := true, recurses := true, named := ["unicode/utf8.first", "unicode/utf8.acceptRanges"], loops := true, apart := false, laid := [("unicode/utf8.acceptRanges", laid_unicode_utf8_acceptRanges), ("unicode/utf8.first", laid_unicode_utf8_first)] }
def SsetBothSaid : Prop := ssetBothRow.holds Tryz.pinned (OpenSpec.ofChange ssetBothSpec)

/-- ITS FALSE NEIGHBOUR: 'it returns false'. Refute it at one input. -/
def ssetBothWrong : ChangeSpec := { name := "ssetBoth", fn := fun _ => fun
  | [d] => { results := [.lit (.bool false)], args := [d] }
  | _ => none }
def SsetBothWrongFalsely : Prop := ssetBothRow.holds Tryz.pinned (OpenSpec.ofChange ssetBothWrong)

/-- 'spinneylaw16.SsetLaws': WHATEVER THE INPUT: true; the input reads as it did. -/
def ssetLawsSpec : ChangeSpec := { name := "ssetLaws", fn := fun _ => fun
  | [d] => { results := [.lit (.bool true)], args := [d] }
  | _ => none }
def ssetLawsRow : OpenClaim := { program := "ytgekmpfoihidpaagreatdoor", sum := "5e3f902c77018a61b4454818a96d2197fc506927bc30636124e4886db60e859e", func := "spinney/spinneylaw16.SsetLaws", spec := "ssetLaws", inPlace := ["internal/bytealg.abigen_runtime_cmpstring"], unfollowed := true, recurses := true, named := ["unicode/utf8.first", "unicode/utf8.acceptRanges"], loops := true, apart := false, laid := [("unicode/utf8.acceptRanges", laid_unicode_utf8_acceptRanges), ("unicode/utf8.first", laid_unicode_utf8_first)] }
def SsetLawsSaid : Prop := ssetLawsRow.holds Tryz.pinned (OpenSpec.ofChange ssetLawsSpec)

/-- ITS FALSE NEIGHBOUR: 'it returns false'. Refute it at one input. -/
def ssetLawsWrong : ChangeSpec := { name := "ssetLaws", fn := fun _ => fun
  | [d] => { results := [.lit (.bool false)], args := [d] }
  | _ => none }
def SsetLawsWrongFalsely : Prop := ssetLawsRow.holds Tryz.pinned (OpenSpec.ofChange ssetLawsWrong)

/-- 'spinneylaw16.SsetAsked': WHATEVER THE INPUT: true; the input reads as it did. -/
def ssetAskedSpec : ChangeSpec := { name := "ssetAsked", fn := fun _ => fun
  | [d1, d2, d3] => { results := [.lit (.bool true)], args := [d1, d2, d3] }
  | _ => none }
def ssetAskedRow : OpenClaim := { program := "ytgekmpfoihidpaagreatdoor", sum := "5e3f902c77018a61b4454818a96d2197fc506927bc30636124e4886db60e859e", func := "spinney/spinneylaw16.SsetAsked", spec := "ssetAsked", inPlace := ["internal/bytealg.abigen_runtime_cmpstring"], unfollowed := true, recurses := true, named := ["unicode/utf8.first", "unicode/utf8.acceptRanges"], loops := true, apart := false, laid := [("unicode/utf8.acceptRanges", laid_unicode_utf8_acceptRanges), ("unicode/utf8.first", laid_unicode_utf8_first)] }
def SsetAskedSaid : Prop := ssetAskedRow.holds Tryz.pinned (OpenSpec.ofChange ssetAskedSpec)

/-- ITS FALSE NEIGHBOUR: 'it returns false'. Refute it at one input. -/
def ssetAskedWrong : ChangeSpec := { name := "ssetAsked", fn := fun _ => fun
  | [d1, d2, d3] => { results := [.lit (.bool false)], args := [d1, d2, d3] }
  | _ => none }
def SsetAskedWrongFalsely : Prop := ssetAskedRow.holds Tryz.pinned (OpenSpec.ofChange ssetAskedWrong)

/-- 'spinneylaw16.SsetSteps': WHATEVER THE INPUT: true; the input reads as it did. -/
def ssetStepsSpec : ChangeSpec := { name := "ssetSteps", fn := fun _ => fun
  | [d1, d2, d3] => { results := [.lit (.bool true)], args := [d1, d2, d3] }
  | _ => none }
def ssetStepsRow : OpenClaim := { program := "ytgekmpfoihidpaagreatdoor", sum := "5e3f902c77018a61b4454818a96d2197fc506927bc30636124e4886db60e859e", func := "spinney/spinneylaw16.SsetSteps", spec := "ssetSteps", inPlace := ["internal/bytealg.abigen_runtime_cmpstring"], unfollowed := true, recurses := true, named := ["unicode/utf8.first", "unicode/utf8.acceptRanges"], loops := true, apart := false, laid := [("unicode/utf8.acceptRanges", laid_unicode_utf8_acceptRanges), ("unicode/utf8.first", laid_unicode_utf8_first)] }
def SsetStepsSaid : Prop := ssetStepsRow.holds Tryz.pinned (OpenSpec.ofChange ssetStepsSpec)

/-- ITS FALSE NEIGHBOUR: 'it returns false'. Refute it at one input. -/
def ssetStepsWrong : ChangeSpec := { name := "ssetSteps", fn := fun _ => fun
  | [d1, d2, d3] => { results := [.lit (.bool false)], args := [d1, d2, d3] }
  | _ => none }
def SsetStepsWrongFalsely : Prop := ssetStepsRow.holds Tryz.pinned (OpenSpec.ofChange ssetStepsWrong)

/-- 'spinneylaw14.RedblackOf': WHATEVER THE INPUT: true; the input reads as it did. -/
def redblackOfSpec : ChangeSpec := { name := "redblackOf", fn := fun _ => fun
  | [d1, d2] => { results := [.lit (.bool true)], args := [d1, d2] }
  | _ => none }
def redblackOfRow : OpenClaim := { program := "ytgekmpfoihidpaagreatdoor", sum := "5e3f902c77018a61b4454818a96d2197fc506927bc30636124e4886db60e859e", func := "spinney/spinneylaw14.RedblackOf", spec := "redblackOf", inPlace := ["internal/bytealg.abigen_runtime_cmpstring"], unfollowed := true, recurses := true, named := ["unicode/utf8.first", "unicode/utf8.acceptRanges"], loops := true, apart := false, laid := [("unicode/utf8.acceptRanges", laid_unicode_utf8_acceptRanges), ("unicode/utf8.first", laid_unicode_utf8_first)] }
def RedblackOfSaid : Prop := redblackOfRow.holds Tryz.pinned (OpenSpec.ofChange redblackOfSpec)

/-- ITS FALSE NEIGHBOUR: 'it returns false'. Refute it at one input. -/
def redblackOfWrong : ChangeSpec := { name := "redblackOf", fn := fun _ => fun
  | [d1, d2] => { results := [.lit (.bool false)], args := [d1, d2] }
  | _ => none }
def RedblackOfWrongFalsely : Prop := redblackOfRow.holds Tryz.pinned (OpenSpec.ofChange redblackOfWrong)

/-- 'spinneylaw16.SsetOf': WHATEVER THE INPUT: true; the input reads as it did. -/
def ssetOfSpec : ChangeSpec := { name := "ssetOf", fn := fun _ => fun
  | [d1, d2] => { results := [.lit (.bool true)], args := [d1, d2] }
  | _ => none }
def ssetOfRow : OpenClaim := { program := "ytgekmpfoihidpaagreatdoor", sum := "5e3f902c77018a61b4454818a96d2197fc506927bc30636124e4886db60e859e", func := "spinney/spinneylaw16.SsetOf", spec := "ssetOf", inPlace := ["internal/bytealg.abigen_runtime_cmpstring"], unfollowed := true, recurses := true, named := ["unicode/utf8.first", "unicode/utf8.acceptRanges"], loops := true, apart := false, laid := [("unicode/utf8.acceptRanges", laid_unicode_utf8_acceptRanges), ("unicode/utf8.first", laid_unicode_utf8_first)] }
def SsetOfSaid : Prop := ssetOfRow.holds Tryz.pinned (OpenSpec.ofChange ssetOfSpec)

/-- ITS FALSE NEIGHBOUR: 'it returns false'. Refute it at one input. -/
def ssetOfWrong : ChangeSpec := { name := "ssetOf", fn := fun _ => fun
  | [d1, d2] => { results := [.lit (.bool false)], args := [d1, d2] }
  | _ => none }
def SsetOfWrongFalsely : Prop := ssetOfRow.holds Tryz.pinned (OpenSpec.ofChange ssetOfWrong)

/- THE SECOND FORM. 'bulk': how many values and letters a reading holds, each counted each time it is reached (what is shared counts as often as it is met; a slice's spare places count too). A statement '..UptoSaid' is the law's where the arguments, and the package variables that the reading takes, are together of bulk at most 1048576: NARROWER than '..Said'. Prove '..Said' where nothing that the law and all that it calls make is longer than what came in: it says more and counts as full. Else prove '..UptoSaid'. A law counts once. -/
mutual
def uptoBulk {H : Type} : DataW H → Nat
  | .lit (.string bytes) => bytes.length + 1
  | .lit _ => 1
  | .nil => 1
  | .ptr d => uptoBulk d + 1
  | .slice elems spare => uptoBulkAll elems + uptoBulkAll spare + 1
  | .agg parts => uptoBulkAll parts + 1
  | .iface _ d => uptoBulk d + 1
  | .map entries => uptoBulkEntries entries + 1
  | .held _ => 1
def uptoBulkAll {H : Type} : List (DataW H) → Nat
  | [] => 0
  | d :: r => uptoBulk d + uptoBulkAll r
def uptoBulkEntries {H : Type} : List (Lit × DataW H) → Nat
  | [] => 0
  | x :: r => uptoBulkEntry x + uptoBulkEntries r
def uptoBulkEntry {H : Type} : Lit × DataW H → Nat
  | (.string bytes, d) => bytes.length + uptoBulk d + 1
  | (_, d) => uptoBulk d + 1
 end
def uptoSmall : (H : Type) → List (DataW H) → Bool := fun _ ds => decide (uptoBulkAll ds ≤ 1048576)
def OpenSpec.upto (s : _root_.Go.ChangeSpec) : _root_.Go.OpenSpec := { _root_.Go.OpenSpec.ofChange s with cond := some uptoSmall }

/-- 'spinneylaw14.RedblackBoth', WHERE WHAT IT READS IS OF BULK AT MOST 1048576: true; the input reads as it did. -/
def redblackBothUptoRow : OpenClaim := { program := "ytgekmpfoihidpaagreatdoor", sum := "5e3f902c77018a61b4454818a96d2197fc506927bc30636124e4886db60e859e", func := "spinney/spinneylaw14.RedblackBoth", spec := "redblackBoth", inPlace := ["internal/bytealg.abigen_runtime_cmpstring"], unfollowed := true, recurses := true, named := ["unicode/utf8.first", "unicode/utf8.acceptRanges"], loops := true, apart := false, laid := [("unicode/utf8.acceptRanges", laid_unicode_utf8_acceptRanges), ("unicode/utf8.first", laid_unicode_utf8_first)], narrowed := true }
def RedblackBothUptoSaid : Prop := redblackBothUptoRow.holds Tryz.pinned (OpenSpec.upto redblackBothSpec)

/-- 'spinneylaw16.SsetBoth', WHERE WHAT IT READS IS OF BULK AT MOST 1048576: true; the input reads as it did. -/
def ssetBothUptoRow : OpenClaim := { program := "ytgekmpfoihidpaagreatdoor", sum := "5e3f902c77018a61b4454818a96d2197fc506927bc30636124e4886db60e859e", func := "spinney/spinneylaw16.SsetBoth", spec := "ssetBoth", inPlace := ["internal/bytealg.abigen_runtime_cmpstring"], unfollowed := true, recurses := true, named := ["unicode/utf8.first", "unicode/utf8.acceptRanges"], loops := true, apart := false, laid := [("unicode/utf8.acceptRanges", laid_unicode_utf8_acceptRanges), ("unicode/utf8.first", laid_unicode_utf8_first)], narrowed := true }
def SsetBothUptoSaid : Prop := ssetBothUptoRow.holds Tryz.pinned (OpenSpec.upto ssetBothSpec)

/-- 'spinneylaw16.SsetLaws', WHERE WHAT IT READS IS OF BULK AT MOST 1048576: true; the input reads as it did. -/
def ssetLawsUptoRow : OpenClaim := { program := "ytgekmpfoihidpaagreatdoor", sum := "5e3f902c77018a61b4454818a96d2197fc506927bc30636124e4886db60e859e", func := "spinney/spinneylaw16.SsetLaws", spec := "ssetLaws", inPlace := ["internal/bytealg.abigen_runtime_cmpstring"], unfollowed := true, recurses := true, named := ["unicode/utf8.first", "unicode/utf8.acceptRanges"], loops := true, apart := false, laid := [("unicode/utf8.acceptRanges", laid_unicode_utf8_acceptRanges), ("unicode/utf8.first", laid_unicode_utf8_first)], narrowed := true }
def SsetLawsUptoSaid : Prop := ssetLawsUptoRow.holds Tryz.pinned (OpenSpec.upto ssetLawsSpec)

/-- 'spinneylaw16.SsetAsked', WHERE WHAT IT READS IS OF BULK AT MOST 1048576: true; the input reads as it did. -/
def ssetAskedUptoRow : OpenClaim := { program := "ytgekmpfoihidpaagreatdoor", sum := "5e3f902c77018a61b4454818a96d2197fc506927bc30636124e4886db60e859e", func := "spinney/spinneylaw16.SsetAsked", spec := "ssetAsked", inPlace := ["internal/bytealg.abigen_runtime_cmpstring"], unfollowed := true, recurses := true, named := ["unicode/utf8.first", "unicode/utf8.acceptRanges"], loops := true, apart := false, laid := [("unicode/utf8.acceptRanges", laid_unicode_utf8_acceptRanges), ("unicode/utf8.first", laid_unicode_utf8_first)], narrowed := true }
def SsetAskedUptoSaid : Prop := ssetAskedUptoRow.holds Tryz.pinned (OpenSpec.upto ssetAskedSpec)

/-- 'spinneylaw16.SsetSteps', WHERE WHAT IT READS IS OF BULK AT MOST 1048576: true; the input reads as it did. -/
def ssetStepsUptoRow : OpenClaim := { program := "ytgekmpfoihidpaagreatdoor", sum := "5e3f902c77018a61b4454818a96d2197fc506927bc30636124e4886db60e859e", func := "spinney/spinneylaw16.SsetSteps", spec := "ssetSteps", inPlace := ["internal/bytealg.abigen_runtime_cmpstring"], unfollowed := true, recurses := true, named := ["unicode/utf8.first", "unicode/utf8.acceptRanges"], loops := true, apart := false, laid := [("unicode/utf8.acceptRanges", laid_unicode_utf8_acceptRanges), ("unicode/utf8.first", laid_unicode_utf8_first)], narrowed := true }
def SsetStepsUptoSaid : Prop := ssetStepsUptoRow.holds Tryz.pinned (OpenSpec.upto ssetStepsSpec)

/-- 'spinneylaw14.RedblackOf', WHERE WHAT IT READS IS OF BULK AT MOST 1048576: true; the input reads as it did. -/
def redblackOfUptoRow : OpenClaim := { program := "ytgekmpfoihidpaagreatdoor", sum := "5e3f902c77018a61b4454818a96d2197fc506927bc30636124e4886db60e859e", func := "spinney/spinneylaw14.RedblackOf", spec := "redblackOf", inPlace := ["internal/bytealg.abigen_runtime_cmpstring"], unfollowed := true, recurses := true, named := ["unicode/utf8.first", "unicode/utf8.acceptRanges"], loops := true, apart := false, laid := [("unicode/utf8.acceptRanges", laid_unicode_utf8_acceptRanges), ("unicode/utf8.first", laid_unicode_utf8_first)], narrowed := true }
def RedblackOfUptoSaid : Prop := redblackOfUptoRow.holds Tryz.pinned (OpenSpec.upto redblackOfSpec)

/-- 'spinneylaw16.SsetOf', WHERE WHAT IT READS IS OF BULK AT MOST 1048576: true; the input reads as it did. -/
def ssetOfUptoRow : OpenClaim := { program := "ytgekmpfoihidpaagreatdoor", sum := "5e3f902c77018a61b4454818a96d2197fc506927bc30636124e4886db60e859e", func := "spinney/spinneylaw16.SsetOf", spec := "ssetOf", inPlace := ["internal/bytealg.abigen_runtime_cmpstring"], unfollowed := true, recurses := true, named := ["unicode/utf8.first", "unicode/utf8.acceptRanges"], loops := true, apart := false, laid := [("unicode/utf8.acceptRanges", laid_unicode_utf8_acceptRanges), ("unicode/utf8.first", laid_unicode_utf8_first)], narrowed := true }
def SsetOfUptoSaid : Prop := ssetOfUptoRow.holds Tryz.pinned (OpenSpec.upto ssetOfSpec)

end Rows
end Go.Proofs.YtgekmpfoihidpaaGreatDoor
