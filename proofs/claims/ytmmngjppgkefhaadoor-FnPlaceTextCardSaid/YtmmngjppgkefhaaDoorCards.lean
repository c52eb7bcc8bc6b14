/-
  DERIVED. GIVEN WITH THE SEED: THE CARDS: each row of YtmmngjppgkefhaaDoorRows.lean that lists a variable, with what it lists TIED to the program's text (the seventh form; the later family's looks); each row that meets fmt, with fmt's text TOLD by the authors' own Lean function (tested against real Go, not proved from fmt's source: count such statements apart). THE CARD IS WHAT COUNTS. Prove the row's statement (the work); the ties are given (YtmmngjppgkefhaaDoorTie.lean); close each card by the builder's one call (the guide's Derived/Test/ToyasCard.lean, 'card_holds'). Laid BY PROGRAM, IN A SANDBOX (cutbox-door.mjs). By AI agents, Wed Nov 11 2026. No macro, syntax, notation, axiom, sorry.
-/
import Derived.Test.YtmmngjppgkefhaaDoorRows
import GoSem.ClaimSeven
namespace Go.Proofs.YtmmngjppgkefhaaDoor
namespace Rows

/-- THE TIED CARD OF 'laws.FnExactDeedText'. -/
def fnExactDeedTextCard : Claim7 := { stood := { row := fnExactDeedTextRow, standIns := [], harness := (true, "54bc8d919a93c18d9a2f11a7a9060726061281662810f6196bf2249abd73376f"), looks := false }, kinds := [], alts := [], laidByText := true, laidKinds := [.data, .data, .data], laidTests := true, laidLooks := .later }
def FnExactDeedTextCardSaid : Prop := Claim7.holds Tryd.pinned (.plain (OpenSpec.ofChange fnExactDeedTextSpec)) fnExactDeedTextCard

/-- THE TIED CARD OF 'laws.FnExactJournalText'. -/
def fnExactJournalTextCard : Claim7 := { stood := { row := fnExactJournalTextRow, standIns := [], harness := (true, "54bc8d919a93c18d9a2f11a7a9060726061281662810f6196bf2249abd73376f"), looks := false }, kinds := [], alts := [], laidByText := true, laidKinds := [.data, .data, .data], laidTests := true, laidLooks := .later }
def FnExactJournalTextCardSaid : Prop := Claim7.holds Tryd.pinned (.plain (OpenSpec.ofChange fnExactJournalTextSpec)) fnExactJournalTextCard

/-- THE TIED CARD OF 'laws.FnExactPlaceText'. -/
def fnExactPlaceTextCard : Claim7 := { stood := { row := fnExactPlaceTextRow, standIns := [], harness := (true, "54bc8d919a93c18d9a2f11a7a9060726061281662810f6196bf2249abd73376f"), looks := false }, kinds := [], alts := [], laidByText := true, laidKinds := [.data, .data, .data], laidTests := true, laidLooks := .later }
def FnExactPlaceTextCardSaid : Prop := Claim7.holds Tryd.pinned (.plain (OpenSpec.ofChange fnExactPlaceTextSpec)) fnExactPlaceTextCard

/-- THE TIED CARD OF 'laws.FnExactStoreNew'. -/
def fnExactStoreNewCard : Claim7 := { stood := { row := fnExactStoreNewRow, standIns := [], harness := (true, "54bc8d919a93c18d9a2f11a7a9060726061281662810f6196bf2249abd73376f"), looks := false }, kinds := [], alts := [], laidByText := true, laidKinds := [.data, .data, .data], laidTests := true, laidLooks := .later }
def FnExactStoreNewCardSaid : Prop := Claim7.holds Tryd.pinned (.plain (OpenSpec.ofChange fnExactStoreNewSpec)) fnExactStoreNewCard

/-- THE TIED CARD OF 'laws.FnExactStoreOk'. -/
def fnExactStoreOkCard : Claim7 := { stood := { row := fnExactStoreOkRow, standIns := [], harness := (true, "54bc8d919a93c18d9a2f11a7a9060726061281662810f6196bf2249abd73376f"), looks := false }, kinds := [], alts := [], laidByText := true, laidKinds := [.data, .data, .data, .data, .pinned], laidTests := true, laidLooks := .later }
def FnExactStoreOkCardSaid : Prop := Claim7.holds Tryd.pinned (.plain (OpenSpec.ofChange fnExactStoreOkSpec)) fnExactStoreOkCard

/-- THE TIED CARD OF 'laws.FnExactStoreCrash'. -/
def fnExactStoreCrashCard : Claim7 := { stood := { row := fnExactStoreCrashRow, standIns := [], harness := (true, "54bc8d919a93c18d9a2f11a7a9060726061281662810f6196bf2249abd73376f"), looks := false }, kinds := [], alts := [], laidByText := true, laidKinds := [.data, .data, .data, .data, .pinned], laidTests := true, laidLooks := .later }
def FnExactStoreCrashCardSaid : Prop := Claim7.holds Tryd.pinned (.plain (OpenSpec.ofChange fnExactStoreCrashSpec)) fnExactStoreCrashCard

/-- THE TIED CARD OF 'laws.FnExactStoreSync'. -/
def fnExactStoreSyncCard : Claim7 := { stood := { row := fnExactStoreSyncRow, standIns := [], harness := (true, "54bc8d919a93c18d9a2f11a7a9060726061281662810f6196bf2249abd73376f"), looks := false }, kinds := [], alts := [], laidByText := true, laidKinds := [.data, .data, .data, .data, .pinned], laidTests := true, laidLooks := .later }
def FnExactStoreSyncCardSaid : Prop := Claim7.holds Tryd.pinned (.plain (OpenSpec.ofChange fnExactStoreSyncSpec)) fnExactStoreSyncCard

/-- THE TIED CARD OF 'laws.FnExactReadPlace'. -/
def fnExactReadPlaceCard : Claim7 := { stood := { row := fnExactReadPlaceRow, standIns := [], harness := (true, "54bc8d919a93c18d9a2f11a7a9060726061281662810f6196bf2249abd73376f"), looks := false }, kinds := [], alts := [], laidByText := true, laidKinds := [.data, .data, .data, .data, .pinned], laidTests := true, laidLooks := .later }
def FnExactReadPlaceCardSaid : Prop := Claim7.holds Tryd.pinned (.plain (OpenSpec.ofChange fnExactReadPlaceSpec)) fnExactReadPlaceCard

/-- THE TIED CARD OF 'laws.FnExactDeskDo'. -/
def fnExactDeskDoCard : Claim7 := { stood := { row := fnExactDeskDoRow, standIns := [], harness := (true, "54bc8d919a93c18d9a2f11a7a9060726061281662810f6196bf2249abd73376f"), looks := false }, kinds := [], alts := [], laidByText := true, laidKinds := [.data, .data, .data], laidTests := true, laidLooks := .later }
def FnExactDeskDoCardSaid : Prop := Claim7.holds Tryd.pinned (.plain (OpenSpec.ofChange fnExactDeskDoSpec)) fnExactDeskDoCard

/-- THE TIED CARD OF 'laws.FnPlaceText'. -/
def fnPlaceTextCard : Claim7 := { stood := { row := fnPlaceTextRow, standIns := [], harness := (true, "54bc8d919a93c18d9a2f11a7a9060726061281662810f6196bf2249abd73376f"), looks := false }, kinds := [], alts := [], laidByText := true, laidKinds := [.data, .data, .data, .data, .pinned], laidTests := true, laidLooks := .later }
def FnPlaceTextCardSaid : Prop := Claim7.holds Tryd.pinned (.plain (OpenSpec.ofChange fnPlaceTextSpec)) fnPlaceTextCard

/-- THE TIED CARD OF 'laws.FnDeskDo'. -/
def fnDeskDoCard : Claim7 := { stood := { row := fnDeskDoRow, standIns := [], harness := (true, "54bc8d919a93c18d9a2f11a7a9060726061281662810f6196bf2249abd73376f"), looks := false }, kinds := [], alts := [], laidByText := true, laidKinds := [.data, .data, .data], laidTests := true, laidLooks := .later }
def FnDeskDoCardSaid : Prop := Claim7.holds Tryd.pinned (.plain (OpenSpec.ofChange fnDeskDoSpec)) fnDeskDoCard

/-- THE TIED CARD OF 'laws.FnDeskRun'. -/
def fnDeskRunCard : Claim7 := { stood := { row := fnDeskRunRow, standIns := [], harness := (true, "54bc8d919a93c18d9a2f11a7a9060726061281662810f6196bf2249abd73376f"), looks := false }, kinds := [], alts := [], laidByText := true, laidKinds := [.data, .data, .data], laidTests := true, laidLooks := .later }
def FnDeskRunCardSaid : Prop := Claim7.holds Tryd.pinned (.plain (OpenSpec.ofChange fnDeskRunSpec)) fnDeskRunCard

/-- THE SECOND FORM's CARD OF 'laws.FnExactDeedText'. -/
def fnExactDeedTextUptoCard : Claim7 := { stood := { row := fnExactDeedTextUptoRow, standIns := [], harness := (true, "54bc8d919a93c18d9a2f11a7a9060726061281662810f6196bf2249abd73376f"), looks := false }, kinds := [], alts := [], laidByText := true, laidKinds := [.data, .data, .data], laidTests := true, laidLooks := .later }
def FnExactDeedTextUptoCardSaid : Prop := Claim7.holds Tryd.pinned (.plain (OpenSpec.upto fnExactDeedTextSpec)) fnExactDeedTextUptoCard

/-- THE SECOND FORM's CARD OF 'laws.FnExactJournalText'. -/
def fnExactJournalTextUptoCard : Claim7 := { stood := { row := fnExactJournalTextUptoRow, standIns := [], harness := (true, "54bc8d919a93c18d9a2f11a7a9060726061281662810f6196bf2249abd73376f"), looks := false }, kinds := [], alts := [], laidByText := true, laidKinds := [.data, .data, .data], laidTests := true, laidLooks := .later }
def FnExactJournalTextUptoCardSaid : Prop := Claim7.holds Tryd.pinned (.plain (OpenSpec.upto fnExactJournalTextSpec)) fnExactJournalTextUptoCard

/-- THE SECOND FORM's CARD OF 'laws.FnExactPlaceText'. -/
def fnExactPlaceTextUptoCard : Claim7 := { stood := { row := fnExactPlaceTextUptoRow, standIns := [], harness := (true, "54bc8d919a93c18d9a2f11a7a9060726061281662810f6196bf2249abd73376f"), looks := false }, kinds := [], alts := [], laidByText := true, laidKinds := [.data, .data, .data], laidTests := true, laidLooks := .later }
def FnExactPlaceTextUptoCardSaid : Prop := Claim7.holds Tryd.pinned (.plain (OpenSpec.upto fnExactPlaceTextSpec)) fnExactPlaceTextUptoCard

/-- THE SECOND FORM's CARD OF 'laws.FnExactStoreNew'. -/
def fnExactStoreNewUptoCard : Claim7 := { stood := { row := fnExactStoreNewUptoRow, standIns := [], harness := (true, "54bc8d919a93c18d9a2f11a7a9060726061281662810f6196bf2249abd73376f"), looks := false }, kinds := [], alts := [], laidByText := true, laidKinds := [.data, .data, .data], laidTests := true, laidLooks := .later }
def FnExactStoreNewUptoCardSaid : Prop := Claim7.holds Tryd.pinned (.plain (OpenSpec.upto fnExactStoreNewSpec)) fnExactStoreNewUptoCard

/-- THE SECOND FORM's CARD OF 'laws.FnExactStoreOk'. -/
def fnExactStoreOkUptoCard : Claim7 := { stood := { row := fnExactStoreOkUptoRow, standIns := [], harness := (true, "54bc8d919a93c18d9a2f11a7a9060726061281662810f6196bf2249abd73376f"), looks := false }, kinds := [], alts := [], laidByText := true, laidKinds := [.data, .data, .data, .data, .pinned], laidTests := true, laidLooks := .later }
def FnExactStoreOkUptoCardSaid : Prop := Claim7.holds Tryd.pinned (.plain (OpenSpec.upto fnExactStoreOkSpec)) fnExactStoreOkUptoCard

/-- THE SECOND FORM's CARD OF 'laws.FnExactStoreCrash'. -/
def fnExactStoreCrashUptoCard : Claim7 := { stood := { row := fnExactStoreCrashUptoRow, standIns := [], harness := (true, "54bc8d919a93c18d9a2f11a7a9060726061281662810f6196bf2249abd73376f"), looks := false }, kinds := [], alts := [], laidByText := true, laidKinds := [.data, .data, .data, .data, .pinned], laidTests := true, laidLooks := .later }
def FnExactStoreCrashUptoCardSaid : Prop := Claim7.holds Tryd.pinned (.plain (OpenSpec.upto fnExactStoreCrashSpec)) fnExactStoreCrashUptoCard

/-- THE SECOND FORM's CARD OF 'laws.FnExactStoreSync'. -/
def fnExactStoreSyncUptoCard : Claim7 := { stood := { row := fnExactStoreSyncUptoRow, standIns := [], harness := (true, "54bc8d919a93c18d9a2f11a7a9060726061281662810f6196bf2249abd73376f"), looks := false }, kinds := [], alts := [], laidByText := true, laidKinds := [.data, .data, .data, .data, .pinned], laidTests := true, laidLooks := .later }
def FnExactStoreSyncUptoCardSaid : Prop := Claim7.holds Tryd.pinned (.plain (OpenSpec.upto fnExactStoreSyncSpec)) fnExactStoreSyncUptoCard

/-- THE SECOND FORM's CARD OF 'laws.FnExactReadPlace'. -/
def fnExactReadPlaceUptoCard : Claim7 := { stood := { row := fnExactReadPlaceUptoRow, standIns := [], harness := (true, "54bc8d919a93c18d9a2f11a7a9060726061281662810f6196bf2249abd73376f"), looks := false }, kinds := [], alts := [], laidByText := true, laidKinds := [.data, .data, .data, .data, .pinned], laidTests := true, laidLooks := .later }
def FnExactReadPlaceUptoCardSaid : Prop := Claim7.holds Tryd.pinned (.plain (OpenSpec.upto fnExactReadPlaceSpec)) fnExactReadPlaceUptoCard

/-- THE SECOND FORM's CARD OF 'laws.FnExactDeskDo'. -/
def fnExactDeskDoUptoCard : Claim7 := { stood := { row := fnExactDeskDoUptoRow, standIns := [], harness := (true, "54bc8d919a93c18d9a2f11a7a9060726061281662810f6196bf2249abd73376f"), looks := false }, kinds := [], alts := [], laidByText := true, laidKinds := [.data, .data, .data], laidTests := true, laidLooks := .later }
def FnExactDeskDoUptoCardSaid : Prop := Claim7.holds Tryd.pinned (.plain (OpenSpec.upto fnExactDeskDoSpec)) fnExactDeskDoUptoCard

/-- THE SECOND FORM's CARD OF 'laws.FnPlaceText'. -/
def fnPlaceTextUptoCard : Claim7 := { stood := { row := fnPlaceTextUptoRow, standIns := [], harness := (true, "54bc8d919a93c18d9a2f11a7a9060726061281662810f6196bf2249abd73376f"), looks := false }, kinds := [], alts := [], laidByText := true, laidKinds := [.data, .data, .data, .data, .pinned], laidTests := true, laidLooks := .later }
def FnPlaceTextUptoCardSaid : Prop := Claim7.holds Tryd.pinned (.plain (OpenSpec.upto fnPlaceTextSpec)) fnPlaceTextUptoCard

/-- THE SECOND FORM's CARD OF 'laws.FnDeskDo'. -/
def fnDeskDoUptoCard : Claim7 := { stood := { row := fnDeskDoUptoRow, standIns := [], harness := (true, "54bc8d919a93c18d9a2f11a7a9060726061281662810f6196bf2249abd73376f"), looks := false }, kinds := [], alts := [], laidByText := true, laidKinds := [.data, .data, .data], laidTests := true, laidLooks := .later }
def FnDeskDoUptoCardSaid : Prop := Claim7.holds Tryd.pinned (.plain (OpenSpec.upto fnDeskDoSpec)) fnDeskDoUptoCard

/-- THE SECOND FORM's CARD OF 'laws.FnDeskRun'. -/
def fnDeskRunUptoCard : Claim7 := { stood := { row := fnDeskRunUptoRow, standIns := [], harness := (true, "54bc8d919a93c18d9a2f11a7a9060726061281662810f6196bf2249abd73376f"), looks := false }, kinds := [], alts := [], laidByText := true, laidKinds := [.data, .data, .data], laidTests := true, laidLooks := .later }
def FnDeskRunUptoCardSaid : Prop := Claim7.holds Tryd.pinned (.plain (OpenSpec.upto fnDeskRunSpec)) fnDeskRunUptoCard
end Rows
end Go.Proofs.YtmmngjppgkefhaaDoor
