/-
  NARROWER THAN 'FOR EVERY INPUT', by the rows' own cells (each row's printed sentence says how): RangesPlace: loops, laid · RangesNext: loops, laid · RedblackMany: laid · RedblackStays: loops, laid.
  DERIVED. THE GIVEN ROWS OF THIS SEAT. 4 by the template 'for every input the law returns true; each argument reads behind the call as it read before'; 0 by the template 'total and deterministic' (their statements: YtkbaoibplojjlaaDoorTotals.lean).
  GIVEN WITH THE SEED: the statements are not yours to turn. If you find one false, say at which input.
  Laid BY PROGRAM, IN A SANDBOX (cutbox-rows.mjs): the forced cells as the released guide's own fill.sh prints them over the translation 314e4f540ac30cd0… (all of the seat's roots in one cut). By AI agents, Wed Nov 11 2026. No macro, syntax, notation, axiom, sorry.
-/
import Derived.Test.YtkbaoibplojjlaaDoorChecked
import GoSem.PinnedTables
import GoSem.Claim
import GoSem.ClaimJoined
import GoSem.ClaimMapViews
import Derived.JoinedTies
import Derived.KernelRfl
namespace Go.Proofs.YtkbaoibplojjlaaDoor
/- THE CELL 'sum', in the pinned program and in every row, IS THE sha256 OF THE DUMP (.gsa) THAT YtkbaoibplojjlaaDoorProg.lean LOADS. Nothing in Lean hashes anything: it is a label: what it is worth is what the hold of that sum in a sandbox is worth. -/
noncomputable def Tryd.pinned : Pinned := { name := "ytkbaoibplojjlaadoor", sum := "314e4f540ac30cd0f328dc0024486c5bb7f3d01efc933649241741c1f90c60ae", checked := Tryd.checked }
namespace Rows
def none {H : Type} : Left H := { results := [], args := [] }

/- WHAT THE LISTED PACKAGE-LEVEL VARIABLES READ AS WHEN THE CALL BEGINS. Each datum BY PROGRAM (the guide's laid-datum.mjs) off the statement by which the dump's own 'gosem.cut.vars' lays the variable. In a bare row this is a premise. The card (YtkbaoibplojjlaaDoorCards.lean) ties it to the program's text. -/
def laid_unicode_utf8_acceptRanges {H : Type} : DataW H := .agg [.agg [.lit (.int .u8 128), .lit (.int .u8 191)], .agg [.lit (.int .u8 160), .lit (.int .u8 191)], .agg [.lit (.int .u8 128), .lit (.int .u8 159)], .agg [.lit (.int .u8 144), .lit (.int .u8 191)], .agg [.lit (.int .u8 128), .lit (.int .u8 143)], .agg [.lit (.int .u8 0), .lit (.int .u8 0)], .agg [.lit (.int .u8 0), .lit (.int .u8 0)], .agg [.lit (.int .u8 0), .lit (.int .u8 0)], .agg [.lit (.int .u8 0), .lit (.int .u8 0)], .agg [.lit (.int .u8 0), .lit (.int .u8 0)], .agg [.lit (.int .u8 0), .lit (.int .u8 0)], .agg [.lit (.int .u8 0), .lit (.int .u8 0)], .agg [.lit (.int .u8 0), .lit (.int .u8 0)], .agg [.lit (.int .u8 0), .lit (.int .u8 0)], .agg [.lit (.int .u8 0), .lit (.int .u8 0)], .agg [.lit (.int .u8 0), .lit (.int .u8 0)]]
/-- One of Go's own tables, pinned by name: the form's constant. -/
def laid_unicode_utf8_first : DataW Unit := Go.Pinned.utf8First

/-- 'spinneylaw15.RangesPlace': WHATEVER THE INPUT: true; the input reads as it did. -/
def rangesPlaceSpec : ChangeSpec := { name := "rangesPlace", fn := fun _ => fun
  | [d1, d2, d3] => { results := [.lit (.bool true)], args := [d1, d2, d3] }
  | _ => none }
def rangesPlaceRow : OpenClaim := { program := "ytkbaoibplojjlaadoor", sum := "314e4f540ac30cd0f328dc0024486c5bb7f3d01efc933649241741c1f90c60ae", func := "spinney/spinneylaw15.RangesPlace", spec := "rangesPlace", inPlace := ["internal/bytealg.abigen_runtime_cmpstring"], unfollowed := true, recurses := true, named := ["unicode/utf8.first", "unicode/utf8.acceptRanges"], loops := true, apart := false, laid := [("unicode/utf8.acceptRanges", laid_unicode_utf8_acceptRanges), ("unicode/utf8.first", laid_unicode_utf8_first)] }
def RangesPlaceSaid : Prop := rangesPlaceRow.holds Tryd.pinned (OpenSpec.ofChange rangesPlaceSpec)

/-- ITS FALSE NEIGHBOUR: 'it returns false'. Refute it at one input. -/
def rangesPlaceWrong : ChangeSpec := { name := "rangesPlace", fn := fun _ => fun
  | [d1, d2, d3] => { results := [.lit (.bool false)], args := [d1, d2, d3] }
  | _ => none }
def RangesPlaceWrongFalsely : Prop := rangesPlaceRow.holds Tryd.pinned (OpenSpec.ofChange rangesPlaceWrong)

/-- 'spinneylaw15.RangesNext': WHATEVER THE INPUT: true; the input reads as it did. -/
def rangesNextSpec : ChangeSpec := { name := "rangesNext", fn := fun _ => fun
  | [d1, d2, d3] => { results := [.lit (.bool true)], args := [d1, d2, d3] }
  | _ => none }
def rangesNextRow : OpenClaim := { program := "ytkbaoibplojjlaadoor", sum := "314e4f540ac30cd0f328dc0024486c5bb7f3d01efc933649241741c1f90c60ae", func := "spinney/spinneylaw15.RangesNext", spec := "rangesNext", inPlace := ["internal/bytealg.abigen_runtime_cmpstring"], unfollowed := true, recurses := true, named := ["unicode/utf8.first", "unicode/utf8.acceptRanges"], loops := true, apart := false, laid := [("unicode/utf8.acceptRanges", laid_unicode_utf8_acceptRanges), ("unicode/utf8.first", laid_unicode_utf8_first)] }
def RangesNextSaid : Prop := rangesNextRow.holds Tryd.pinned (OpenSpec.ofChange rangesNextSpec)

/-- ITS FALSE NEIGHBOUR: 'it returns false'. Refute it at one input. -/
def rangesNextWrong : ChangeSpec := { name := "rangesNext", fn := fun _ => fun
  | [d1, d2, d3] => { results := [.lit (.bool false)], args := [d1, d2, d3] }
  | _ => none }
def RangesNextWrongFalsely : Prop := rangesNextRow.holds Tryd.pinned (OpenSpec.ofChange rangesNextWrong)

/-- 'spinneylaw14.RedblackMany': WHATEVER THE INPUT: true; the input reads as it did. -/
def redblackManySpec : ChangeSpec := { name := "redblackMany", fn := fun _ => fun
  | [d1, d2] => { results := [.lit (.bool true)], args := [d1, d2] }
  | _ => none }
def redblackManyRow : OpenClaim := { program := "ytkbaoibplojjlaadoor", sum := "314e4f540ac30cd0f328dc0024486c5bb7f3d01efc933649241741c1f90c60ae", func := "spinney/spinneylaw14.RedblackMany", spec := "redblackMany", inPlace := ["internal/bytealg.abigen_runtime_cmpstring"], unfollowed := true, recurses := true, named := ["unicode/utf8.first", "unicode/utf8.acceptRanges"], apart := false, laid := [("unicode/utf8.acceptRanges", laid_unicode_utf8_acceptRanges), ("unicode/utf8.first", laid_unicode_utf8_first)] }
def RedblackManySaid : Prop := redblackManyRow.holds Tryd.pinned (OpenSpec.ofChange redblackManySpec)

/-- ITS FALSE NEIGHBOUR: 'it returns false'. Refute it at one input. -/
def redblackManyWrong : ChangeSpec := { name := "redblackMany", fn := fun _ => fun
  | [d1, d2] => { results := [.lit (.bool false)], args := [d1, d2] }
  | _ => none }
def RedblackManyWrongFalsely : Prop := redblackManyRow.holds Tryd.pinned (OpenSpec.ofChange redblackManyWrong)

/-- 'spinneylaw14.RedblackStays': WHATEVER THE INPUT: true; the input reads as it did. -/
def redblackStaysSpec : ChangeSpec := { name := "redblackStays", fn := fun _ => fun
  | [d1, d2, d3] => { results := [.lit (.bool true)], args := [d1, d2, d3] }
  | _ => none }
def redblackStaysRow : OpenClaim := { program := "ytkbaoibplojjlaadoor", sum := "314e4f540ac30cd0f328dc0024486c5bb7f3d01efc933649241741c1f90c60ae", func := "spinney/spinneylaw14.RedblackStays", spec := "redblackStays", inPlace := ["internal/bytealg.abigen_runtime_cmpstring"], unfollowed := true, recurses := true, named := ["unicode/utf8.first", "unicode/utf8.acceptRanges"], loops := true, apart := false, laid := [("unicode/utf8.acceptRanges", laid_unicode_utf8_acceptRanges), ("unicode/utf8.first", laid_unicode_utf8_first)] }
def RedblackStaysSaid : Prop := redblackStaysRow.holds Tryd.pinned (OpenSpec.ofChange redblackStaysSpec)

/-- ITS FALSE NEIGHBOUR: 'it returns false'. Refute it at one input. -/
def redblackStaysWrong : ChangeSpec := { name := "redblackStays", fn := fun _ => fun
  | [d1, d2, d3] => { results := [.lit (.bool false)], args := [d1, d2, d3] }
  | _ => none }
def RedblackStaysWrongFalsely : Prop := redblackStaysRow.holds Tryd.pinned (OpenSpec.ofChange redblackStaysWrong)

/- THE SECOND FORM. 'bulk': how many values and letters a reading holds, each counted each time it is reached (what is shared counts as often as it is met; a slice's spare places count too). A statement '..UptoSaid' is the law's where the arguments, and the package variables that the reading takes, are together of bulk at most 1048576: NARROWER than '..Said'. Prove '..Said' where nothing that the law and all that it calls make is longer than what came in: it says more and counts as full. Else prove '..UptoSaid'. A law counts once. -/
mutual
def uptoBulk {H : Type} : DataW H → Nat
  | .lit (.string bytes) => bytes.length + 1
  | .lit _ => 1
  | .nil => 1
  | .ptr d => uptoBulk d + 1
  | .slice elems spare => uptoBulkAll elems + uptoBulkAll spare + 1
  | .agg parts => uptoBulkAll parts + 1
  | .iface _ d => uptoBulk d + 1
  | .map entries => uptoBulkEntries entries + 1
  | .held _ => 1
def uptoBulkAll {H : Type} : List (DataW H) → Nat
  | [] => 0
  | d :: r => uptoBulk d + uptoBulkAll r
def uptoBulkEntries {H : Type} : List (Lit × DataW H) → Nat
  | [] => 0
  | x :: r => uptoBulkEntry x + uptoBulkEntries r
def uptoBulkEntry {H : Type} : Lit × DataW H → Nat
  | (.string bytes, d) => bytes.length + uptoBulk d + 1
  | (_, d) => uptoBulk d + 1
 end
def uptoSmall : (H : Type) → List (DataW H) → Bool := fun _ ds => decide (uptoBulkAll ds ≤ 1048576)
def OpenSpec.upto (s : _root_.Go.ChangeSpec) : _root_.Go.OpenSpec := { _root_.Go.OpenSpec.ofChange s with cond := some uptoSmall }

/-- 'spinneylaw15.RangesPlace', WHERE WHAT IT READS IS OF BULK AT MOST 1048576: true; the input reads as it did. -/
def rangesPlaceUptoRow : OpenClaim := { program := "ytkbaoibplojjlaadoor", sum := "314e4f540ac30cd0f328dc0024486c5bb7f3d01efc933649241741c1f90c60ae", func := "spinney/spinneylaw15.RangesPlace", spec := "rangesPlace", inPlace := ["internal/bytealg.abigen_runtime_cmpstring"], unfollowed := true, recurses := true, named := ["unicode/utf8.first", "unicode/utf8.acceptRanges"], loops := true, apart := false, laid := [("unicode/utf8.acceptRanges", laid_unicode_utf8_acceptRanges), ("unicode/utf8.first", laid_unicode_utf8_first)], narrowed := true }
def RangesPlaceUptoSaid : Prop := rangesPlaceUptoRow.holds Tryd.pinned (OpenSpec.upto rangesPlaceSpec)

/-- 'spinneylaw15.RangesNext', WHERE WHAT IT READS IS OF BULK AT MOST 1048576: true; the input reads as it did. -/
def rangesNextUptoRow : OpenClaim := { program := "ytkbaoibplojjlaadoor", sum := "314e4f540ac30cd0f328dc0024486c5bb7f3d01efc933649241741c1f90c60ae", func := "spinney/spinneylaw15.RangesNext", spec := "rangesNext", inPlace := ["internal/bytealg.abigen_runtime_cmpstring"], unfollowed := true, recurses := true, named := ["unicode/utf8.first", "unicode/utf8.acceptRanges"], loops := true, apart := false, laid := [("unicode/utf8.acceptRanges", laid_unicode_utf8_acceptRanges), ("unicode/utf8.first", laid_unicode_utf8_first)], narrowed := true }
def RangesNextUptoSaid : Prop := rangesNextUptoRow.holds Tryd.pinned (OpenSpec.upto rangesNextSpec)

/-- 'spinneylaw14.RedblackMany', WHERE WHAT IT READS IS OF BULK AT MOST 1048576: true; the input reads as it did. -/
def redblackManyUptoRow : OpenClaim := { program := "ytkbaoibplojjlaadoor", sum := "314e4f540ac30cd0f328dc0024486c5bb7f3d01efc933649241741c1f90c60ae", func := "spinney/spinneylaw14.RedblackMany", spec := "redblackMany", inPlace := ["internal/bytealg.abigen_runtime_cmpstring"], unfollowed := true, recurses := true, named := ["unicode/utf8.first", "unicode/utf8.acceptRanges"], apart := false, laid := [("unicode/utf8.acceptRanges", laid_unicode_utf8_acceptRanges), ("unicode/utf8.first", laid_unicode_utf8_first)], narrowed := true }
def RedblackManyUptoSaid : Prop := redblackManyUptoRow.holds Tryd.pinned (OpenSpec.upto redblackManySpec)

/-- 'spinneylaw14.RedblackStays', WHERE WHAT IT READS IS OF BULK AT MOST 1048576: true; the input reads as it did. -/
def redblackStaysUptoRow : OpenClaim := { program := "ytkbaoibplojjlaadoor", sum := "314e4f540ac30cd0f328dc0024486c5bb7f3d01efc933649241741c1f90c60ae", func := "spinney/spinneylaw14.RedblackStays", spec := "redblackStays", inPlace := ["internal/bytealg.abigen_runtime_cmpstring"], unfollowed := true, recurses := true, named := ["unicode/utf8.first", "unicode/utf8.acceptRanges"], loops := true, apart := false, laid := [("unicode/utf8.acceptRanges", laid_unicode_utf8_acceptRanges), ("unicode/utf8.first", laid_unicode_utf8_first)], narrowed := true }
def RedblackStaysUptoSaid : Prop := redblackStaysUptoRow.holds Tryd.pinned (OpenSpec.upto redblackStaysSpec)

end Rows
end Go.Proofs.YtkbaoibplojjlaaDoor
