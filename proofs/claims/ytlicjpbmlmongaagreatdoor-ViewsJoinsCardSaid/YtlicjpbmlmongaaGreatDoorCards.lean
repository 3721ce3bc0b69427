/-
  DERIVED. GIVEN WITH THE SEED: THE CARDS: each row of YtlicjpbmlmongaaGreatDoorRows.lean that lists a variable, with what it lists TIED to the program's text (the seventh form; the later family's looks); each row that meets fmt, with fmt's text TOLD by the authors' own Lean function (tested against real Go, not proved from fmt's source: count such statements apart). THE CARD IS WHAT COUNTS. Prove the row's statement (the work); the ties are given (YtlicjpbmlmongaaGreatDoorTie.lean); close each card by the builder's one call (the guide's Derived/Test/ToyasCard.lean, 'card_holds'). Laid BY PROGRAM, IN A SANDBOX (cutbox-door.mjs). By AI agents, Wed Nov 11 2026. No macro, syntax, notation, axiom, sorry.
-/
import Derived.Test.YtlicjpbmlmongaaGreatDoorRows
import GoSem.ClaimSeven
namespace Go.Proofs.YtlicjpbmlmongaaGreatDoor
namespace Rows

/-- THE TIED CARD OF 'toolchestlaw06.SortsSorts'. -/
def sortsSortsCard : Claim7 := { stood := { row := sortsSortsRow, standIns := [], harness := (true, "2c28b480b1b7fe06026e326c6a5b1abe78e91cc04fcaebc2d803052df9746c96"), looks := true }, kinds := [], alts := [], laidByText := true, laidKinds := [.data, .data, .data, .data, .pinned], laidTests := true, laidLooks := .later }
def SortsSortsCardSaid : Prop := Claim7.holds Tryz.pinned (.plain (OpenSpec.ofChange sortsSortsSpec)) sortsSortsCard

/-- THE TIED CARD OF 'toolchestlaw06.SortsMerges'. -/
def sortsMergesCard : Claim7 := { stood := { row := sortsMergesRow, standIns := [], harness := (true, "2c28b480b1b7fe06026e326c6a5b1abe78e91cc04fcaebc2d803052df9746c96"), looks := true }, kinds := [], alts := [], laidByText := true, laidKinds := [.data, .data, .data, .data, .pinned], laidTests := true, laidLooks := .later }
def SortsMergesCardSaid : Prop := Claim7.holds Tryz.pinned (.plain (OpenSpec.ofChange sortsMergesSpec)) sortsMergesCard

/-- THE TIED CARD OF 'toolchestlaw08.ViewsJoins'. -/
def viewsJoinsCard : Claim7 := { stood := { row := viewsJoinsRow, standIns := [], harness := (true, "2c28b480b1b7fe06026e326c6a5b1abe78e91cc04fcaebc2d803052df9746c96"), looks := true }, kinds := [], alts := [], laidByText := true, laidKinds := [.data, .data, .data], laidTests := true, laidLooks := .later }
def ViewsJoinsCardSaid : Prop := Claim7.holds Tryz.pinned (.plain (OpenSpec.ofChange viewsJoinsSpec)) viewsJoinsCard

/-- THE SECOND FORM's CARD OF 'toolchestlaw06.SortsSorts'. -/
def sortsSortsUptoCard : Claim7 := { stood := { row := sortsSortsUptoRow, standIns := [], harness := (true, "2c28b480b1b7fe06026e326c6a5b1abe78e91cc04fcaebc2d803052df9746c96"), looks := true }, kinds := [], alts := [], laidByText := true, laidKinds := [.data, .data, .data, .data, .pinned], laidTests := true, laidLooks := .later }
def SortsSortsUptoCardSaid : Prop := Claim7.holds Tryz.pinned (.plain (OpenSpec.upto sortsSortsSpec)) sortsSortsUptoCard

/-- THE SECOND FORM's CARD OF 'toolchestlaw06.SortsMerges'. -/
def sortsMergesUptoCard : Claim7 := { stood := { row := sortsMergesUptoRow, standIns := [], harness := (true, "2c28b480b1b7fe06026e326c6a5b1abe78e91cc04fcaebc2d803052df9746c96"), looks := true }, kinds := [], alts := [], laidByText := true, laidKinds := [.data, .data, .data, .data, .pinned], laidTests := true, laidLooks := .later }
def SortsMergesUptoCardSaid : Prop := Claim7.holds Tryz.pinned (.plain (OpenSpec.upto sortsMergesSpec)) sortsMergesUptoCard

/-- THE SECOND FORM's CARD OF 'toolchestlaw08.ViewsJoins'. -/
def viewsJoinsUptoCard : Claim7 := { stood := { row := viewsJoinsUptoRow, standIns := [], harness := (true, "2c28b480b1b7fe06026e326c6a5b1abe78e91cc04fcaebc2d803052df9746c96"), looks := true }, kinds := [], alts := [], laidByText := true, laidKinds := [.data, .data, .data], laidTests := true, laidLooks := .later }
def ViewsJoinsUptoCardSaid : Prop := Claim7.holds Tryz.pinned (.plain (OpenSpec.upto viewsJoinsSpec)) viewsJoinsUptoCard
end Rows
end Go.Proofs.YtlicjpbmlmongaaGreatDoor
