/-
  DERIVED. GIVEN WITH THE SEED: THE CARDS: each row of YtbhcfopokdcplaaGreatDoorRows.lean that lists a variable, with what it lists TIED to the program's text (the seventh form; the later family's looks); each row that meets fmt, with fmt's text TOLD by the authors' own Lean function (tested against real Go, not proved from fmt's source: count such statements apart). THE CARD IS WHAT COUNTS. Prove the row's statement (the work); the ties are given (YtbhcfopokdcplaaGreatDoorTie.lean); close each card by the builder's one call (the guide's Derived/Test/ToyasCard.lean, 'card_holds'). Laid BY PROGRAM, IN A SANDBOX (cutbox-door.mjs). By AI agents, Wed Nov 11 2026. No macro, syntax, notation, axiom, sorry.
-/
import Derived.Test.YtbhcfopokdcplaaGreatDoorRows
import GoSem.ClaimSeven
namespace Go.Proofs.YtbhcfopokdcplaaGreatDoor
namespace Rows

/-- THE TIED CARD OF 'casementlaw07.WrapShows'. -/
def wrapShowsCard : Claim7 := { stood := { row := wrapShowsRow, standIns := [], harness := (true, "49227046f3bb35e06258aa6c27119bcbc9060ede9336a36d6e30bfcc1ca108c0"), looks := true }, kinds := [], alts := [], laidByText := true, laidKinds := [.data, .pinned], laidTests := true, laidLooks := .later }
def WrapShowsCardSaid : Prop := Claim7.holds Tryz.pinned (.plain (OpenSpec.ofChange wrapShowsSpec)) wrapShowsCard

/-- THE TIED CARD OF 'casementlaw19.EventSends'. -/
def eventSendsCard : Claim7 := { stood := { row := eventSendsRow, standIns := [], harness := (true, "49227046f3bb35e06258aa6c27119bcbc9060ede9336a36d6e30bfcc1ca108c0"), looks := true }, kinds := [], alts := [], laidByText := true, laidKinds := [.data, .pinned], laidTests := true, laidLooks := .later }
def EventSendsCardSaid : Prop := Claim7.holds Tryz.pinned (.plain (OpenSpec.ofChange eventSendsSpec)) eventSendsCard

/-- THE TIED CARD OF 'casementlaw19.EventWay'. -/
def eventWayCard : Claim7 := { stood := { row := eventWayRow, standIns := [], harness := (true, "49227046f3bb35e06258aa6c27119bcbc9060ede9336a36d6e30bfcc1ca108c0"), looks := true }, kinds := [], alts := [], laidByText := true, laidKinds := [.data, .pinned], laidTests := true, laidLooks := .later }
def EventWayCardSaid : Prop := Claim7.holds Tryz.pinned (.plain (OpenSpec.ofChange eventWaySpec)) eventWayCard

/-- THE TIED CARD OF 'casementlaw19.EventStops'. -/
def eventStopsCard : Claim7 := { stood := { row := eventStopsRow, standIns := [], harness := (true, "49227046f3bb35e06258aa6c27119bcbc9060ede9336a36d6e30bfcc1ca108c0"), looks := true }, kinds := [], alts := [], laidByText := true, laidKinds := [.data, .pinned], laidTests := true, laidLooks := .later }
def EventStopsCardSaid : Prop := Claim7.holds Tryz.pinned (.plain (OpenSpec.ofChange eventStopsSpec)) eventStopsCard

/-- THE SECOND FORM's CARD OF 'casementlaw07.WrapShows'. -/
def wrapShowsUptoCard : Claim7 := { stood := { row := wrapShowsUptoRow, standIns := [], harness := (true, "49227046f3bb35e06258aa6c27119bcbc9060ede9336a36d6e30bfcc1ca108c0"), looks := true }, kinds := [], alts := [], laidByText := true, laidKinds := [.data, .pinned], laidTests := true, laidLooks := .later }
def WrapShowsUptoCardSaid : Prop := Claim7.holds Tryz.pinned (.plain (OpenSpec.upto wrapShowsSpec)) wrapShowsUptoCard

/-- THE SECOND FORM's CARD OF 'casementlaw19.EventSends'. -/
def eventSendsUptoCard : Claim7 := { stood := { row := eventSendsUptoRow, standIns := [], harness := (true, "49227046f3bb35e06258aa6c27119bcbc9060ede9336a36d6e30bfcc1ca108c0"), looks := true }, kinds := [], alts := [], laidByText := true, laidKinds := [.data, .pinned], laidTests := true, laidLooks := .later }
def EventSendsUptoCardSaid : Prop := Claim7.holds Tryz.pinned (.plain (OpenSpec.upto eventSendsSpec)) eventSendsUptoCard

/-- THE SECOND FORM's CARD OF 'casementlaw19.EventWay'. -/
def eventWayUptoCard : Claim7 := { stood := { row := eventWayUptoRow, standIns := [], harness := (true, "49227046f3bb35e06258aa6c27119bcbc9060ede9336a36d6e30bfcc1ca108c0"), looks := true }, kinds := [], alts := [], laidByText := true, laidKinds := [.data, .pinned], laidTests := true, laidLooks := .later }
def EventWayUptoCardSaid : Prop := Claim7.holds Tryz.pinned (.plain (OpenSpec.upto eventWaySpec)) eventWayUptoCard

/-- THE SECOND FORM's CARD OF 'casementlaw19.EventStops'. -/
def eventStopsUptoCard : Claim7 := { stood := { row := eventStopsUptoRow, standIns := [], harness := (true, "49227046f3bb35e06258aa6c27119bcbc9060ede9336a36d6e30bfcc1ca108c0"), looks := true }, kinds := [], alts := [], laidByText := true, laidKinds := [.data, .pinned], laidTests := true, laidLooks := .later }
def EventStopsUptoCardSaid : Prop := Claim7.holds Tryz.pinned (.plain (OpenSpec.upto eventStopsSpec)) eventStopsUptoCard
end Rows
end Go.Proofs.YtbhcfopokdcplaaGreatDoor
