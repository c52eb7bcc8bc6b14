/-
  DERIVED. GIVEN WITH THE SEED: THE CARDS: each row of YtmmngjppgkefhabDoorRows.lean that lists a variable, with what it lists TIED to the program's text (the seventh form; the later family's looks); each row that meets fmt, with fmt's text TOLD by the authors' own Lean function (tested against real Go, not proved from fmt's source: count such statements apart). THE CARD IS WHAT COUNTS. Prove the row's statement (the work); the ties are given (YtmmngjppgkefhabDoorTie.lean); close each card by the builder's one call (the guide's Derived/Test/ToyasCard.lean, 'card_holds'). Laid BY PROGRAM, IN A SANDBOX (cutbox-door.mjs). By AI agents, Wed Nov 11 2026. No macro, syntax, notation, axiom, sorry.
-/
import Derived.Test.YtmmngjppgkefhabDoorRows
import GoSem.ClaimSeven
namespace Go.Proofs.YtmmngjppgkefhabDoor
namespace Rows

/-- THE TIED CARD OF 'laws.FnExactReadDeed'. -/
def fnExactReadDeedCard : Claim7 := { stood := { row := fnExactReadDeedRow, standIns := [], harness := (true, "1d3c600cc43c5f0cbb5d7ff22e8fe30dc186bd5f5aecf4d37be1940859dcc6bb"), looks := true }, kinds := [], alts := [], laidByText := true, laidKinds := [.data, .data, .data, .data, .sentinel, .sentinel, .pinned], laidTests := true, laidLooks := .later }
def FnExactReadDeedCardSaid : Prop := Claim7.holds Tryd.pinned (.plain (OpenSpec.ofChange fnExactReadDeedSpec)) fnExactReadDeedCard

/-- THE TIED CARD OF 'laws.FnReadPlace'. -/
def fnReadPlaceCard : Claim7 := { stood := { row := fnReadPlaceRow, standIns := [], harness := (true, "1d3c600cc43c5f0cbb5d7ff22e8fe30dc186bd5f5aecf4d37be1940859dcc6bb"), looks := true }, kinds := [], alts := [], laidByText := true, laidKinds := [.data, .data, .data, .data, .pinned], laidTests := true, laidLooks := .later }
def FnReadPlaceCardSaid : Prop := Claim7.holds Tryd.pinned (.plain (OpenSpec.ofChange fnReadPlaceSpec)) fnReadPlaceCard

/-- THE TIED CARD OF 'laws.FnExactDeskRun'. -/
def fnExactDeskRunCard : Claim7 := { stood := { row := fnExactDeskRunRow, standIns := [], harness := (true, "1d3c600cc43c5f0cbb5d7ff22e8fe30dc186bd5f5aecf4d37be1940859dcc6bb"), looks := true }, kinds := [], alts := [], laidByText := true, laidKinds := [.data, .data, .data], laidTests := true, laidLooks := .later }
def FnExactDeskRunCardSaid : Prop := Claim7.holds Tryd.pinned (.plain (OpenSpec.ofChange fnExactDeskRunSpec)) fnExactDeskRunCard

/-- THE TIED CARD OF 'laws.FnExactReadJournal'. -/
def fnExactReadJournalCard : Claim7 := { stood := { row := fnExactReadJournalRow, standIns := [], harness := (true, "1d3c600cc43c5f0cbb5d7ff22e8fe30dc186bd5f5aecf4d37be1940859dcc6bb"), looks := true }, kinds := [], alts := [], laidByText := true, laidKinds := [.data, .data, .data, .data, .sentinel, .sentinel, .pinned], laidTests := true, laidLooks := .later }
def FnExactReadJournalCardSaid : Prop := Claim7.holds Tryd.pinned (.plain (OpenSpec.ofChange fnExactReadJournalSpec)) fnExactReadJournalCard

/-- THE TIED CARD OF 'laws.FnDeedText'. -/
def fnDeedTextCard : Claim7 := { stood := { row := fnDeedTextRow, standIns := [], harness := (true, "1d3c600cc43c5f0cbb5d7ff22e8fe30dc186bd5f5aecf4d37be1940859dcc6bb"), looks := true }, kinds := [], alts := [], laidByText := true, laidKinds := [.data, .data, .data, .data, .sentinel, .sentinel, .pinned], laidTests := true, laidLooks := .later }
def FnDeedTextCardSaid : Prop := Claim7.holds Tryd.pinned (.plain (OpenSpec.ofChange fnDeedTextSpec)) fnDeedTextCard

/-- THE TIED CARD OF 'laws.FnReadDeed'. -/
def fnReadDeedCard : Claim7 := { stood := { row := fnReadDeedRow, standIns := [], harness := (true, "1d3c600cc43c5f0cbb5d7ff22e8fe30dc186bd5f5aecf4d37be1940859dcc6bb"), looks := true }, kinds := [], alts := [], laidByText := true, laidKinds := [.data, .data, .data, .data, .sentinel, .sentinel, .pinned], laidTests := true, laidLooks := .later }
def FnReadDeedCardSaid : Prop := Claim7.holds Tryd.pinned (.plain (OpenSpec.ofChange fnReadDeedSpec)) fnReadDeedCard

/-- THE TIED CARD OF 'laws.FnJournalText'. -/
def fnJournalTextCard : Claim7 := { stood := { row := fnJournalTextRow, standIns := [], harness := (true, "1d3c600cc43c5f0cbb5d7ff22e8fe30dc186bd5f5aecf4d37be1940859dcc6bb"), looks := true }, kinds := [], alts := [], laidByText := true, laidKinds := [.data, .data, .data, .data, .sentinel, .sentinel, .pinned], laidTests := true, laidLooks := .later }
def FnJournalTextCardSaid : Prop := Claim7.holds Tryd.pinned (.plain (OpenSpec.ofChange fnJournalTextSpec)) fnJournalTextCard

/-- THE TIED CARD OF 'laws.FnStoreOk'. -/
def fnStoreOkCard : Claim7 := { stood := { row := fnStoreOkRow, standIns := [], harness := (true, "1d3c600cc43c5f0cbb5d7ff22e8fe30dc186bd5f5aecf4d37be1940859dcc6bb"), looks := true }, kinds := [], alts := [], laidByText := true, laidKinds := [.data, .data, .data, .data, .pinned], laidTests := true, laidLooks := .later }
def FnStoreOkCardSaid : Prop := Claim7.holds Tryd.pinned (.plain (OpenSpec.ofChange fnStoreOkSpec)) fnStoreOkCard

/-- THE TIED CARD OF 'laws.FnStoreCrash'. -/
def fnStoreCrashCard : Claim7 := { stood := { row := fnStoreCrashRow, standIns := [], harness := (true, "1d3c600cc43c5f0cbb5d7ff22e8fe30dc186bd5f5aecf4d37be1940859dcc6bb"), looks := true }, kinds := [], alts := [], laidByText := true, laidKinds := [.data, .data, .data, .data, .pinned], laidTests := true, laidLooks := .later }
def FnStoreCrashCardSaid : Prop := Claim7.holds Tryd.pinned (.plain (OpenSpec.ofChange fnStoreCrashSpec)) fnStoreCrashCard

/-- THE TIED CARD OF 'laws.FnStoreSync'. -/
def fnStoreSyncCard : Claim7 := { stood := { row := fnStoreSyncRow, standIns := [], harness := (true, "1d3c600cc43c5f0cbb5d7ff22e8fe30dc186bd5f5aecf4d37be1940859dcc6bb"), looks := true }, kinds := [], alts := [], laidByText := true, laidKinds := [.data, .data, .data, .data, .pinned], laidTests := true, laidLooks := .later }
def FnStoreSyncCardSaid : Prop := Claim7.holds Tryd.pinned (.plain (OpenSpec.ofChange fnStoreSyncSpec)) fnStoreSyncCard

/-- THE TIED CARD OF 'laws.FnExactStoreMend'. -/
def fnExactStoreMendCard : Claim7 := { stood := { row := fnExactStoreMendRow, standIns := [], harness := (true, "1d3c600cc43c5f0cbb5d7ff22e8fe30dc186bd5f5aecf4d37be1940859dcc6bb"), looks := true }, kinds := [], alts := [], laidByText := true, laidKinds := [.data, .data, .data, .data, .sentinel, .sentinel, .pinned], laidTests := true, laidLooks := .later }
def FnExactStoreMendCardSaid : Prop := Claim7.holds Tryd.pinned (.plain (OpenSpec.ofChange fnExactStoreMendSpec)) fnExactStoreMendCard

/-- THE SECOND FORM's CARD OF 'laws.FnExactReadDeed'. -/
def fnExactReadDeedUptoCard : Claim7 := { stood := { row := fnExactReadDeedUptoRow, standIns := [], harness := (true, "1d3c600cc43c5f0cbb5d7ff22e8fe30dc186bd5f5aecf4d37be1940859dcc6bb"), looks := true }, kinds := [], alts := [], laidByText := true, laidKinds := [.data, .data, .data, .data, .sentinel, .sentinel, .pinned], laidTests := true, laidLooks := .later }
def FnExactReadDeedUptoCardSaid : Prop := Claim7.holds Tryd.pinned (.plain (OpenSpec.upto fnExactReadDeedSpec)) fnExactReadDeedUptoCard

/-- THE SECOND FORM's CARD OF 'laws.FnReadPlace'. -/
def fnReadPlaceUptoCard : Claim7 := { stood := { row := fnReadPlaceUptoRow, standIns := [], harness := (true, "1d3c600cc43c5f0cbb5d7ff22e8fe30dc186bd5f5aecf4d37be1940859dcc6bb"), looks := true }, kinds := [], alts := [], laidByText := true, laidKinds := [.data, .data, .data, .data, .pinned], laidTests := true, laidLooks := .later }
def FnReadPlaceUptoCardSaid : Prop := Claim7.holds Tryd.pinned (.plain (OpenSpec.upto fnReadPlaceSpec)) fnReadPlaceUptoCard

/-- THE SECOND FORM's CARD OF 'laws.FnExactDeskRun'. -/
def fnExactDeskRunUptoCard : Claim7 := { stood := { row := fnExactDeskRunUptoRow, standIns := [], harness := (true, "1d3c600cc43c5f0cbb5d7ff22e8fe30dc186bd5f5aecf4d37be1940859dcc6bb"), looks := true }, kinds := [], alts := [], laidByText := true, laidKinds := [.data, .data, .data], laidTests := true, laidLooks := .later }
def FnExactDeskRunUptoCardSaid : Prop := Claim7.holds Tryd.pinned (.plain (OpenSpec.upto fnExactDeskRunSpec)) fnExactDeskRunUptoCard

/-- THE SECOND FORM's CARD OF 'laws.FnExactReadJournal'. -/
def fnExactReadJournalUptoCard : Claim7 := { stood := { row := fnExactReadJournalUptoRow, standIns := [], harness := (true, "1d3c600cc43c5f0cbb5d7ff22e8fe30dc186bd5f5aecf4d37be1940859dcc6bb"), looks := true }, kinds := [], alts := [], laidByText := true, laidKinds := [.data, .data, .data, .data, .sentinel, .sentinel, .pinned], laidTests := true, laidLooks := .later }
def FnExactReadJournalUptoCardSaid : Prop := Claim7.holds Tryd.pinned (.plain (OpenSpec.upto fnExactReadJournalSpec)) fnExactReadJournalUptoCard

/-- THE SECOND FORM's CARD OF 'laws.FnDeedText'. -/
def fnDeedTextUptoCard : Claim7 := { stood := { row := fnDeedTextUptoRow, standIns := [], harness := (true, "1d3c600cc43c5f0cbb5d7ff22e8fe30dc186bd5f5aecf4d37be1940859dcc6bb"), looks := true }, kinds := [], alts := [], laidByText := true, laidKinds := [.data, .data, .data, .data, .sentinel, .sentinel, .pinned], laidTests := true, laidLooks := .later }
def FnDeedTextUptoCardSaid : Prop := Claim7.holds Tryd.pinned (.plain (OpenSpec.upto fnDeedTextSpec)) fnDeedTextUptoCard

/-- THE SECOND FORM's CARD OF 'laws.FnReadDeed'. -/
def fnReadDeedUptoCard : Claim7 := { stood := { row := fnReadDeedUptoRow, standIns := [], harness := (true, "1d3c600cc43c5f0cbb5d7ff22e8fe30dc186bd5f5aecf4d37be1940859dcc6bb"), looks := true }, kinds := [], alts := [], laidByText := true, laidKinds := [.data, .data, .data, .data, .sentinel, .sentinel, .pinned], laidTests := true, laidLooks := .later }
def FnReadDeedUptoCardSaid : Prop := Claim7.holds Tryd.pinned (.plain (OpenSpec.upto fnReadDeedSpec)) fnReadDeedUptoCard

/-- THE SECOND FORM's CARD OF 'laws.FnJournalText'. -/
def fnJournalTextUptoCard : Claim7 := { stood := { row := fnJournalTextUptoRow, standIns := [], harness := (true, "1d3c600cc43c5f0cbb5d7ff22e8fe30dc186bd5f5aecf4d37be1940859dcc6bb"), looks := true }, kinds := [], alts := [], laidByText := true, laidKinds := [.data, .data, .data, .data, .sentinel, .sentinel, .pinned], laidTests := true, laidLooks := .later }
def FnJournalTextUptoCardSaid : Prop := Claim7.holds Tryd.pinned (.plain (OpenSpec.upto fnJournalTextSpec)) fnJournalTextUptoCard

/-- THE SECOND FORM's CARD OF 'laws.FnStoreOk'. -/
def fnStoreOkUptoCard : Claim7 := { stood := { row := fnStoreOkUptoRow, standIns := [], harness := (true, "1d3c600cc43c5f0cbb5d7ff22e8fe30dc186bd5f5aecf4d37be1940859dcc6bb"), looks := true }, kinds := [], alts := [], laidByText := true, laidKinds := [.data, .data, .data, .data, .pinned], laidTests := true, laidLooks := .later }
def FnStoreOkUptoCardSaid : Prop := Claim7.holds Tryd.pinned (.plain (OpenSpec.upto fnStoreOkSpec)) fnStoreOkUptoCard

/-- THE SECOND FORM's CARD OF 'laws.FnStoreCrash'. -/
def fnStoreCrashUptoCard : Claim7 := { stood := { row := fnStoreCrashUptoRow, standIns := [], harness := (true, "1d3c600cc43c5f0cbb5d7ff22e8fe30dc186bd5f5aecf4d37be1940859dcc6bb"), looks := true }, kinds := [], alts := [], laidByText := true, laidKinds := [.data, .data, .data, .data, .pinned], laidTests := true, laidLooks := .later }
def FnStoreCrashUptoCardSaid : Prop := Claim7.holds Tryd.pinned (.plain (OpenSpec.upto fnStoreCrashSpec)) fnStoreCrashUptoCard

/-- THE SECOND FORM's CARD OF 'laws.FnStoreSync'. -/
def fnStoreSyncUptoCard : Claim7 := { stood := { row := fnStoreSyncUptoRow, standIns := [], harness := (true, "1d3c600cc43c5f0cbb5d7ff22e8fe30dc186bd5f5aecf4d37be1940859dcc6bb"), looks := true }, kinds := [], alts := [], laidByText := true, laidKinds := [.data, .data, .data, .data, .pinned], laidTests := true, laidLooks := .later }
def FnStoreSyncUptoCardSaid : Prop := Claim7.holds Tryd.pinned (.plain (OpenSpec.upto fnStoreSyncSpec)) fnStoreSyncUptoCard

/-- THE SECOND FORM's CARD OF 'laws.FnExactStoreMend'. -/
def fnExactStoreMendUptoCard : Claim7 := { stood := { row := fnExactStoreMendUptoRow, standIns := [], harness := (true, "1d3c600cc43c5f0cbb5d7ff22e8fe30dc186bd5f5aecf4d37be1940859dcc6bb"), looks := true }, kinds := [], alts := [], laidByText := true, laidKinds := [.data, .data, .data, .data, .sentinel, .sentinel, .pinned], laidTests := true, laidLooks := .later }
def FnExactStoreMendUptoCardSaid : Prop := Claim7.holds Tryd.pinned (.plain (OpenSpec.upto fnExactStoreMendSpec)) fnExactStoreMendUptoCard
end Rows
end Go.Proofs.YtmmngjppgkefhabDoor
