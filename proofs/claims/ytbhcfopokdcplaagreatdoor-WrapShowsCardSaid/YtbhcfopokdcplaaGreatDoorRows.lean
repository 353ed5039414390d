/-
  NARROWER THAN 'FOR EVERY INPUT', by the rows' own cells (each row's printed sentence says how): WrapShows: laid · EventSends: laid · EventWay: laid · EventStops: laid.
  DERIVED. THE GIVEN ROWS OF THIS SEAT. 4 by the template 'for every input the law returns true; each argument reads behind the call as it read before'; 0 by the template 'total and deterministic' (their statements: YtbhcfopokdcplaaGreatDoorTotals.lean).
  GIVEN WITH THE SEED: the statements are not yours to turn. If you find one false, say at which input.
  Laid BY PROGRAM, IN A SANDBOX (cutbox-rows.mjs): the forced cells as the released guide's own fill.sh prints them over the translation 838c98f71c1071db… (all of the seat's roots in one cut). By AI agents, Wed Nov 11 2026. No macro, syntax, notation, axiom, sorry.
-/
import Derived.Test.YtbhcfopokdcplaaGreatDoorChecked
import GoSem.PinnedTables
import GoSem.Claim
import GoSem.ClaimJoined
import GoSem.ClaimMapViews
import Derived.JoinedTies
import Derived.KernelRfl
namespace Go.Proofs.YtbhcfopokdcplaaGreatDoor
/- THE CELL 'sum', in the pinned program and in every row, IS THE sha256 OF THE DUMP (.gsa) THAT YtbhcfopokdcplaaGreatDoorProg.lean LOADS. Nothing in Lean hashes anything: it is a label: what it is worth is what the hold of that sum in a sandbox is worth. -/
noncomputable def Tryz.pinned : Pinned := { name := "ytbhcfopokdcplaagreatdoor", sum := "838c98f71c1071db6d38161274c36011c90856df601c20b7178cd732115a3e78", checked := Tryz.checked }
namespace Rows
def none {H : Type} : Left H := { results := [], args := [] }

/- WHAT THE LISTED PACKAGE-LEVEL VARIABLES READ AS WHEN THE CALL BEGINS. Each datum BY PROGRAM (the guide's laid-datum.mjs) off the statement by which the dump's own 'gosem.cut.vars' lays the variable. In a bare row this is a premise. The card (YtbhcfopokdcplaaGreatDoorCards.lean) ties it to the program's text. -/
def laid_unicode_utf8_acceptRanges {H : Type} : DataW H := .agg [.agg [.lit (.int .u8 128), .lit (.int .u8 191)], .agg [.lit (.int .u8 160), .lit (.int .u8 191)], .agg [.lit (.int .u8 128), .lit (.int .u8 159)], .agg [.lit (.int .u8 144), .lit (.int .u8 191)], .agg [.lit (.int .u8 128), .lit (.int .u8 143)], .agg [.lit (.int .u8 0), .lit (.int .u8 0)], .agg [.lit (.int .u8 0), .lit (.int .u8 0)], .agg [.lit (.int .u8 0), .lit (.int .u8 0)], .agg [.lit (.int .u8 0), .lit (.int .u8 0)], .agg [.lit (.int .u8 0), .lit (.int .u8 0)], .agg [.lit (.int .u8 0), .lit (.int .u8 0)], .agg [.lit (.int .u8 0), .lit (.int .u8 0)], .agg [.lit (.int .u8 0), .lit (.int .u8 0)], .agg [.lit (.int .u8 0), .lit (.int .u8 0)], .agg [.lit (.int .u8 0), .lit (.int .u8 0)], .agg [.lit (.int .u8 0), .lit (.int .u8 0)]]
/-- One of Go's own tables, pinned by name: the form's constant. -/
def laid_unicode_utf8_first : DataW Unit := Go.Pinned.utf8First

/-- 'casementlaw07.WrapShows': WHATEVER THE INPUT: true; the input reads as it did. -/
def wrapShowsSpec : ChangeSpec := { name := "wrapShows", fn := fun _ => fun
  | [d1, d2] => { results := [.lit (.bool true)], args := [d1, d2] }
  | _ => none }
def wrapShowsRow : OpenClaim := { program := "ytbhcfopokdcplaagreatdoor", sum := "838c98f71c1071db6d38161274c36011c90856df601c20b7178cd732115a3e78", func := "casement/casementlaw07.WrapShows", spec := "wrapShows", unfollowed := true, recurses := true, named := ["unicode/utf8.first", "unicode/utf8.acceptRanges"], apart := false, laid := [("unicode/utf8.acceptRanges", laid_unicode_utf8_acceptRanges), ("unicode/utf8.first", laid_unicode_utf8_first)] }
def WrapShowsSaid : Prop := wrapShowsRow.holds Tryz.pinned (OpenSpec.ofChange wrapShowsSpec)

/-- ITS FALSE NEIGHBOUR: 'it returns false'. Refute it at one input. -/
def wrapShowsWrong : ChangeSpec := { name := "wrapShows", fn := fun _ => fun
  | [d1, d2] => { results := [.lit (.bool false)], args := [d1, d2] }
  | _ => none }
def WrapShowsWrongFalsely : Prop := wrapShowsRow.holds Tryz.pinned (OpenSpec.ofChange wrapShowsWrong)

/-- 'casementlaw19.EventSends': WHATEVER THE INPUT: true; the input reads as it did. -/
def eventSendsSpec : ChangeSpec := { name := "eventSends", fn := fun _ => fun
  | [d1, d2, d3, d4] => { results := [.lit (.bool true)], args := [d1, d2, d3, d4] }
  | _ => none }
def eventSendsRow : OpenClaim := { program := "ytbhcfopokdcplaagreatdoor", sum := "838c98f71c1071db6d38161274c36011c90856df601c20b7178cd732115a3e78", func := "casement/casementlaw19.EventSends", spec := "eventSends", unfollowed := true, recurses := true, named := ["unicode/utf8.first", "unicode/utf8.acceptRanges"], apart := false, laid := [("unicode/utf8.acceptRanges", laid_unicode_utf8_acceptRanges), ("unicode/utf8.first", laid_unicode_utf8_first)] }
def EventSendsSaid : Prop := eventSendsRow.holds Tryz.pinned (OpenSpec.ofChange eventSendsSpec)

/-- ITS FALSE NEIGHBOUR: 'it returns false'. Refute it at one input. -/
def eventSendsWrong : ChangeSpec := { name := "eventSends", fn := fun _ => fun
  | [d1, d2, d3, d4] => { results := [.lit (.bool false)], args := [d1, d2, d3, d4] }
  | _ => none }
def EventSendsWrongFalsely : Prop := eventSendsRow.holds Tryz.pinned (OpenSpec.ofChange eventSendsWrong)

/-- 'casementlaw19.EventWay': WHATEVER THE INPUT: true; the input reads as it did. -/
def eventWaySpec : ChangeSpec := { name := "eventWay", fn := fun _ => fun
  | [d1, d2] => { results := [.lit (.bool true)], args := [d1, d2] }
  | _ => none }
def eventWayRow : OpenClaim := { program := "ytbhcfopokdcplaagreatdoor", sum := "838c98f71c1071db6d38161274c36011c90856df601c20b7178cd732115a3e78", func := "casement/casementlaw19.EventWay", spec := "eventWay", unfollowed := true, recurses := true, named := ["unicode/utf8.first", "unicode/utf8.acceptRanges"], apart := false, laid := [("unicode/utf8.acceptRanges", laid_unicode_utf8_acceptRanges), ("unicode/utf8.first", laid_unicode_utf8_first)] }
def EventWaySaid : Prop := eventWayRow.holds Tryz.pinned (OpenSpec.ofChange eventWaySpec)

/-- ITS FALSE NEIGHBOUR: 'it returns false'. Refute it at one input. -/
def eventWayWrong : ChangeSpec := { name := "eventWay", fn := fun _ => fun
  | [d1, d2] => { results := [.lit (.bool false)], args := [d1, d2] }
  | _ => none }
def EventWayWrongFalsely : Prop := eventWayRow.holds Tryz.pinned (OpenSpec.ofChange eventWayWrong)

/-- 'casementlaw19.EventStops': WHATEVER THE INPUT: true; the input reads as it did. -/
def eventStopsSpec : ChangeSpec := { name := "eventStops", fn := fun _ => fun
  | [d1, d2, d3, d4] => { results := [.lit (.bool true)], args := [d1, d2, d3, d4] }
  | _ => none }
def eventStopsRow : OpenClaim := { program := "ytbhcfopokdcplaagreatdoor", sum := "838c98f71c1071db6d38161274c36011c90856df601c20b7178cd732115a3e78", func := "casement/casementlaw19.EventStops", spec := "eventStops", unfollowed := true, recurses := true, named := ["unicode/utf8.first", "unicode/utf8.acceptRanges"], apart := false, laid := [("unicode/utf8.acceptRanges", laid_unicode_utf8_acceptRanges), ("unicode/utf8.first", laid_unicode_utf8_first)] }
def EventStopsSaid : Prop := eventStopsRow.holds Tryz.pinned (OpenSpec.ofChange eventStopsSpec)

/-- ITS FALSE NEIGHBOUR: 'it returns false'. Refute it at one input. -/
def eventStopsWrong : ChangeSpec := { name := "eventStops", fn := fun _ => fun
  | [d1, d2, d3, d4] => { results := [.lit (.bool false)], args := [d1, d2, d3, d4] }
  | _ => none }
def EventStopsWrongFalsely : Prop := eventStopsRow.holds Tryz.pinned (OpenSpec.ofChange eventStopsWrong)

/- THE SECOND FORM. 'bulk': how many values and letters a reading holds, each counted each time it is reached (what is shared counts as often as it is met; a slice's spare places count too). A statement '..UptoSaid' is the law's where the arguments, and the package variables that the reading takes, are together of bulk at most 1048576: NARROWER than '..Said'. Prove '..Said' where nothing that the law and all that it calls make is longer than what came in: it says more and counts as full. Else prove '..UptoSaid'. A law counts once. -/
mutual
def uptoBulk {H : Type} : DataW H → Nat
  | .lit (.string bytes) => bytes.length + 1
  | .lit _ => 1
  | .nil => 1
  | .ptr d => uptoBulk d + 1
  | .slice elems spare => uptoBulkAll elems + uptoBulkAll spare + 1
  | .agg parts => uptoBulkAll parts + 1
  | .iface _ d => uptoBulk d + 1
  | .map entries => uptoBulkEntries entries + 1
  | .held _ => 1
def uptoBulkAll {H : Type} : List (DataW H) → Nat
  | [] => 0
  | d :: r => uptoBulk d + uptoBulkAll r
def uptoBulkEntries {H : Type} : List (Lit × DataW H) → Nat
  | [] => 0
  | x :: r => uptoBulkEntry x + uptoBulkEntries r
def uptoBulkEntry {H : Type} : Lit × DataW H → Nat
  | (.string bytes, d) => bytes.length + uptoBulk d + 1
  | (_, d) => uptoBulk d + 1
 end
def uptoSmall : (H : Type) → List (DataW H) → Bool := fun _ ds => decide (uptoBulkAll ds ≤ 1048576)
def OpenSpec.upto (s : _root_.Go.ChangeSpec) : _root_.Go.OpenSpec := { _root_.Go.OpenSpec.ofChange s with cond := some uptoSmall }

/-- 'casementlaw07.WrapShows', WHERE WHAT IT READS IS OF BULK AT MOST 1048576: true; the input reads as it did. -/
def wrapShowsUptoRow : OpenClaim := { program := "ytbhcfopokdcplaagreatdoor", sum := "838c98f71c1071db6d38161274c36011c90856df601c20b7178cd732115a3e78", func := "casement/casementlaw07.WrapShows", spec := "wrapShows", unfollowed := true, recurses := true, named := ["unicode/utf8.first", "unicode/utf8.acceptRanges"], apart := false, laid := [("unicode/utf8.acceptRanges", laid_unicode_utf8_acceptRanges), ("unicode/utf8.first", laid_unicode_utf8_first)], narrowed := true }
def WrapShowsUptoSaid : Prop := wrapShowsUptoRow.holds Tryz.pinned (OpenSpec.upto wrapShowsSpec)

/-- 'casementlaw19.EventSends', WHERE WHAT IT READS IS OF BULK AT MOST 1048576: true; the input reads as it did. -/
def eventSendsUptoRow : OpenClaim := { program := "ytbhcfopokdcplaagreatdoor", sum := "838c98f71c1071db6d38161274c36011c90856df601c20b7178cd732115a3e78", func := "casement/casementlaw19.EventSends", spec := "eventSends", unfollowed := true, recurses := true, named := ["unicode/utf8.first", "unicode/utf8.acceptRanges"], apart := false, laid := [("unicode/utf8.acceptRanges", laid_unicode_utf8_acceptRanges), ("unicode/utf8.first", laid_unicode_utf8_first)], narrowed := true }
def EventSendsUptoSaid : Prop := eventSendsUptoRow.holds Tryz.pinned (OpenSpec.upto eventSendsSpec)

/-- 'casementlaw19.EventWay', WHERE WHAT IT READS IS OF BULK AT MOST 1048576: true; the input reads as it did. -/
def eventWayUptoRow : OpenClaim := { program := "ytbhcfopokdcplaagreatdoor", sum := "838c98f71c1071db6d38161274c36011c90856df601c20b7178cd732115a3e78", func := "casement/casementlaw19.EventWay", spec := "eventWay", unfollowed := true, recurses := true, named := ["unicode/utf8.first", "unicode/utf8.acceptRanges"], apart := false, laid := [("unicode/utf8.acceptRanges", laid_unicode_utf8_acceptRanges), ("unicode/utf8.first", laid_unicode_utf8_first)], narrowed := true }
def EventWayUptoSaid : Prop := eventWayUptoRow.holds Tryz.pinned (OpenSpec.upto eventWaySpec)

/-- 'casementlaw19.EventStops', WHERE WHAT IT READS IS OF BULK AT MOST 1048576: true; the input reads as it did. -/
def eventStopsUptoRow : OpenClaim := { program := "ytbhcfopokdcplaagreatdoor", sum := "838c98f71c1071db6d38161274c36011c90856df601c20b7178cd732115a3e78", func := "casement/casementlaw19.EventStops", spec := "eventStops", unfollowed := true, recurses := true, named := ["unicode/utf8.first", "unicode/utf8.acceptRanges"], apart := false, laid := [("unicode/utf8.acceptRanges", laid_unicode_utf8_acceptRanges), ("unicode/utf8.first", laid_unicode_utf8_first)], narrowed := true }
def EventStopsUptoSaid : Prop := eventStopsUptoRow.holds Tryz.pinned (OpenSpec.upto eventStopsSpec)

end Rows
end Go.Proofs.YtbhcfopokdcplaaGreatDoor
