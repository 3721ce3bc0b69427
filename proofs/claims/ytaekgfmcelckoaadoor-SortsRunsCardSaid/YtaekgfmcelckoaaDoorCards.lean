/-
  DERIVED. GIVEN WITH THE SEED: THE CARDS: each row of YtaekgfmcelckoaaDoorRows.lean that lists a variable, with what it lists TIED to the program's text (the seventh form; the later family's looks); each row that meets fmt, with fmt's text TOLD by the authors' own Lean function (tested against real Go, not proved from fmt's source: count such statements apart). THE CARD IS WHAT COUNTS. Prove the row's statement (the work); the ties are given (YtaekgfmcelckoaaDoorTie.lean); close each card by the builder's one call (the guide's Derived/Test/ToyasCard.lean, 'card_holds'). Laid BY PROGRAM, IN A SANDBOX (cutbox-door.mjs). By AI agents, Wed Nov 11 2026. No macro, syntax, notation, axiom, sorry.
-/
import Derived.Test.YtaekgfmcelckoaaDoorRows
import GoSem.ClaimSeven
namespace Go.Proofs.YtaekgfmcelckoaaDoor
namespace Rows

/-- THE TIED CARD OF 'toolchestlaw06.SortsRuns'. -/
def sortsRunsCard : Claim7 := { stood := { row := sortsRunsRow, standIns := [], harness := (true, "82b9ff1a00765d7e3a4ad3db799378596802e6a385facf10d6e8cafea7583d8f"), looks := true }, kinds := [], alts := [], laidByText := true, laidKinds := [.data, .pinned], laidTests := true, laidLooks := .later }
def SortsRunsCardSaid : Prop := Claim7.holds Tryd.pinned (.plain (OpenSpec.ofChange sortsRunsSpec)) sortsRunsCard

/-- THE TIED CARD OF 'toolchestlaw06.SortsSame'. -/
def sortsSameCard : Claim7 := { stood := { row := sortsSameRow, standIns := [], harness := (true, "82b9ff1a00765d7e3a4ad3db799378596802e6a385facf10d6e8cafea7583d8f"), looks := true }, kinds := [], alts := [], laidByText := true, laidKinds := [.data, .pinned], laidTests := true, laidLooks := .later }
def SortsSameCardSaid : Prop := Claim7.holds Tryd.pinned (.plain (OpenSpec.ofChange sortsSameSpec)) sortsSameCard

/-- THE TIED CARD OF 'toolchestlaw06.SortsTurned'. -/
def sortsTurnedCard : Claim7 := { stood := { row := sortsTurnedRow, standIns := [], harness := (true, "82b9ff1a00765d7e3a4ad3db799378596802e6a385facf10d6e8cafea7583d8f"), looks := true }, kinds := [], alts := [], laidByText := true, laidKinds := [.data, .pinned], laidTests := true, laidLooks := .later }
def SortsTurnedCardSaid : Prop := Claim7.holds Tryd.pinned (.plain (OpenSpec.ofChange sortsTurnedSpec)) sortsTurnedCard

/-- THE TIED CARD OF 'toolchestlaw06.SortsUnique'. -/
def sortsUniqueCard : Claim7 := { stood := { row := sortsUniqueRow, standIns := [], harness := (true, "82b9ff1a00765d7e3a4ad3db799378596802e6a385facf10d6e8cafea7583d8f"), looks := true }, kinds := [], alts := [], laidByText := true, laidKinds := [.data, .pinned], laidTests := true, laidLooks := .later }
def SortsUniqueCardSaid : Prop := Claim7.holds Tryd.pinned (.plain (OpenSpec.ofChange sortsUniqueSpec)) sortsUniqueCard

/-- THE TIED CARD OF 'toolchestlaw06.SortsRunsBack'. -/
def sortsRunsBackCard : Claim7 := { stood := { row := sortsRunsBackRow, standIns := [], harness := (true, "82b9ff1a00765d7e3a4ad3db799378596802e6a385facf10d6e8cafea7583d8f"), looks := true }, kinds := [], alts := [], laidByText := true, laidKinds := [.data, .pinned], laidTests := true, laidLooks := .later }
def SortsRunsBackCardSaid : Prop := Claim7.holds Tryd.pinned (.plain (OpenSpec.ofChange sortsRunsBackSpec)) sortsRunsBackCard

/-- THE TIED CARD OF 'toolchestlaw06.SortsMerged'. -/
def sortsMergedCard : Claim7 := { stood := { row := sortsMergedRow, standIns := [], harness := (true, "82b9ff1a00765d7e3a4ad3db799378596802e6a385facf10d6e8cafea7583d8f"), looks := true }, kinds := [], alts := [], laidByText := true, laidKinds := [.data, .pinned], laidTests := true, laidLooks := .later }
def SortsMergedCardSaid : Prop := Claim7.holds Tryd.pinned (.plain (OpenSpec.ofChange sortsMergedSpec)) sortsMergedCard

/-- THE TIED CARD OF 'toolchestlaw06.SortsComm'. -/
def sortsCommCard : Claim7 := { stood := { row := sortsCommRow, standIns := [], harness := (true, "82b9ff1a00765d7e3a4ad3db799378596802e6a385facf10d6e8cafea7583d8f"), looks := true }, kinds := [], alts := [], laidByText := true, laidKinds := [.data, .pinned], laidTests := true, laidLooks := .later }
def SortsCommCardSaid : Prop := Claim7.holds Tryd.pinned (.plain (OpenSpec.ofChange sortsCommSpec)) sortsCommCard

/-- THE SECOND FORM's CARD OF 'toolchestlaw06.SortsRuns'. -/
def sortsRunsUptoCard : Claim7 := { stood := { row := sortsRunsUptoRow, standIns := [], harness := (true, "82b9ff1a00765d7e3a4ad3db799378596802e6a385facf10d6e8cafea7583d8f"), looks := true }, kinds := [], alts := [], laidByText := true, laidKinds := [.data, .pinned], laidTests := true, laidLooks := .later }
def SortsRunsUptoCardSaid : Prop := Claim7.holds Tryd.pinned (.plain (OpenSpec.upto sortsRunsSpec)) sortsRunsUptoCard

/-- THE SECOND FORM's CARD OF 'toolchestlaw06.SortsSame'. -/
def sortsSameUptoCard : Claim7 := { stood := { row := sortsSameUptoRow, standIns := [], harness := (true, "82b9ff1a00765d7e3a4ad3db799378596802e6a385facf10d6e8cafea7583d8f"), looks := true }, kinds := [], alts := [], laidByText := true, laidKinds := [.data, .pinned], laidTests := true, laidLooks := .later }
def SortsSameUptoCardSaid : Prop := Claim7.holds Tryd.pinned (.plain (OpenSpec.upto sortsSameSpec)) sortsSameUptoCard

/-- THE SECOND FORM's CARD OF 'toolchestlaw06.SortsTurned'. -/
def sortsTurnedUptoCard : Claim7 := { stood := { row := sortsTurnedUptoRow, standIns := [], harness := (true, "82b9ff1a00765d7e3a4ad3db799378596802e6a385facf10d6e8cafea7583d8f"), looks := true }, kinds := [], alts := [], laidByText := true, laidKinds := [.data, .pinned], laidTests := true, laidLooks := .later }
def SortsTurnedUptoCardSaid : Prop := Claim7.holds Tryd.pinned (.plain (OpenSpec.upto sortsTurnedSpec)) sortsTurnedUptoCard

/-- THE SECOND FORM's CARD OF 'toolchestlaw06.SortsUnique'. -/
def sortsUniqueUptoCard : Claim7 := { stood := { row := sortsUniqueUptoRow, standIns := [], harness := (true, "82b9ff1a00765d7e3a4ad3db799378596802e6a385facf10d6e8cafea7583d8f"), looks := true }, kinds := [], alts := [], laidByText := true, laidKinds := [.data, .pinned], laidTests := true, laidLooks := .later }
def SortsUniqueUptoCardSaid : Prop := Claim7.holds Tryd.pinned (.plain (OpenSpec.upto sortsUniqueSpec)) sortsUniqueUptoCard

/-- THE SECOND FORM's CARD OF 'toolchestlaw06.SortsRunsBack'. -/
def sortsRunsBackUptoCard : Claim7 := { stood := { row := sortsRunsBackUptoRow, standIns := [], harness := (true, "82b9ff1a00765d7e3a4ad3db799378596802e6a385facf10d6e8cafea7583d8f"), looks := true }, kinds := [], alts := [], laidByText := true, laidKinds := [.data, .pinned], laidTests := true, laidLooks := .later }
def SortsRunsBackUptoCardSaid : Prop := Claim7.holds Tryd.pinned (.plain (OpenSpec.upto sortsRunsBackSpec)) sortsRunsBackUptoCard

/-- THE SECOND FORM's CARD OF 'toolchestlaw06.SortsMerged'. -/
def sortsMergedUptoCard : Claim7 := { stood := { row := sortsMergedUptoRow, standIns := [], harness := (true, "82b9ff1a00765d7e3a4ad3db799378596802e6a385facf10d6e8cafea7583d8f"), looks := true }, kinds := [], alts := [], laidByText := true, laidKinds := [.data, .pinned], laidTests := true, laidLooks := .later }
def SortsMergedUptoCardSaid : Prop := Claim7.holds Tryd.pinned (.plain (OpenSpec.upto sortsMergedSpec)) sortsMergedUptoCard

/-- THE SECOND FORM's CARD OF 'toolchestlaw06.SortsComm'. -/
def sortsCommUptoCard : Claim7 := { stood := { row := sortsCommUptoRow, standIns := [], harness := (true, "82b9ff1a00765d7e3a4ad3db799378596802e6a385facf10d6e8cafea7583d8f"), looks := true }, kinds := [], alts := [], laidByText := true, laidKinds := [.data, .pinned], laidTests := true, laidLooks := .later }
def SortsCommUptoCardSaid : Prop := Claim7.holds Tryd.pinned (.plain (OpenSpec.upto sortsCommSpec)) sortsCommUptoCard
end Rows
end Go.Proofs.YtaekgfmcelckoaaDoor
