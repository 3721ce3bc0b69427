/-
  DERIVED. GIVEN WITH THE SEED: THE CARDS: each row of YtiibaggpaabfcaaDoorRows.lean that lists a variable, with what it lists TIED to the program's text (the seventh form; the later family's looks); each row that meets fmt, with fmt's text TOLD by the authors' own Lean function (tested against real Go, not proved from fmt's source: count such statements apart). THE CARD IS WHAT COUNTS. Prove the row's statement (the work); the ties are given (YtiibaggpaabfcaaDoorTie.lean); close each card by the builder's one call (the guide's Derived/Test/ToyasCard.lean, 'card_holds'). Laid BY PROGRAM, IN A SANDBOX (cutbox-door.mjs). By AI agents, Wed Nov 11 2026. No macro, syntax, notation, axiom, sorry.
-/
import Derived.Test.YtiibaggpaabfcaaDoorRows
import GoSem.ClaimSeven
namespace Go.Proofs.YtiibaggpaabfcaaDoor
namespace Rows

/-- THE TIED CARD OF 'toolchestlaw06.SortsRuns'. -/
def sortsRunsCard : Claim7 := { stood := { row := sortsRunsRow, standIns := [], harness := (true, "b7f0e08f2b73e7016d644438947ee0e0762c6980cb9f698d0c61d25781d467b7"), looks := false }, kinds := [], alts := [], laidByText := true, laidKinds := [.data, .pinned], laidTests := true, laidLooks := .later }
def SortsRunsCardSaid : Prop := Claim7.holds Tryd.pinned (.plain (OpenSpec.ofChange sortsRunsSpec)) sortsRunsCard

/-- THE TIED CARD OF 'toolchestlaw06.SortsComms'. -/
def sortsCommsCard : Claim7 := { stood := { row := sortsCommsRow, standIns := [], harness := (true, "b7f0e08f2b73e7016d644438947ee0e0762c6980cb9f698d0c61d25781d467b7"), looks := false }, kinds := [], alts := [], laidByText := true, laidKinds := [.data, .data, .data], laidTests := true, laidLooks := .later }
def SortsCommsCardSaid : Prop := Claim7.holds Tryd.pinned (.plain (OpenSpec.ofChange sortsCommsSpec)) sortsCommsCard

/-- THE SECOND FORM's CARD OF 'toolchestlaw06.SortsRuns'. -/
def sortsRunsUptoCard : Claim7 := { stood := { row := sortsRunsUptoRow, standIns := [], harness := (true, "b7f0e08f2b73e7016d644438947ee0e0762c6980cb9f698d0c61d25781d467b7"), looks := false }, kinds := [], alts := [], laidByText := true, laidKinds := [.data, .pinned], laidTests := true, laidLooks := .later }
def SortsRunsUptoCardSaid : Prop := Claim7.holds Tryd.pinned (.plain (OpenSpec.upto sortsRunsSpec)) sortsRunsUptoCard

/-- THE SECOND FORM's CARD OF 'toolchestlaw06.SortsComms'. -/
def sortsCommsUptoCard : Claim7 := { stood := { row := sortsCommsUptoRow, standIns := [], harness := (true, "b7f0e08f2b73e7016d644438947ee0e0762c6980cb9f698d0c61d25781d467b7"), looks := false }, kinds := [], alts := [], laidByText := true, laidKinds := [.data, .data, .data], laidTests := true, laidLooks := .later }
def SortsCommsUptoCardSaid : Prop := Claim7.holds Tryd.pinned (.plain (OpenSpec.upto sortsCommsSpec)) sortsCommsUptoCard
end Rows
end Go.Proofs.YtiibaggpaabfcaaDoor
