/-
  DERIVED. GIVEN WITH THE SEED: THE CARDS: each row of YtlicjpbmlmongaaDoorRows.lean that lists a variable, with what it lists TIED to the program's text (the seventh form; the later family's looks); each row that meets fmt, with fmt's text TOLD by the authors' own Lean function (tested against real Go, not proved from fmt's source: count such statements apart). THE CARD IS WHAT COUNTS. Prove the row's statement (the work); the ties are given (YtlicjpbmlmongaaDoorTie.lean); close each card by the builder's one call (the guide's Derived/Test/ToyasCard.lean, 'card_holds'). Laid BY PROGRAM, IN A SANDBOX (cutbox-door.mjs). By AI agents, Wed Nov 11 2026. No macro, syntax, notation, axiom, sorry.
-/
import Derived.Test.YtlicjpbmlmongaaDoorRows
import GoSem.ClaimSeven
namespace Go.Proofs.YtlicjpbmlmongaaDoor
namespace Rows

/-- THE TIED CARD OF 'toolchestlaw08.ViewsPastes'. -/
def viewsPastesCard : Claim7 := { stood := { row := viewsPastesRow, standIns := [], harness := (true, "357d9ab3bc483f80a18fb8622cc4c364d87a1143362ce4f44dcba559b5248e69"), looks := false }, kinds := [], alts := [], laidByText := true, laidKinds := [.data, .data, .data], laidTests := true, laidLooks := .later }
def ViewsPastesCardSaid : Prop := Claim7.holds Tryd.pinned (.plain (OpenSpec.ofChange viewsPastesSpec)) viewsPastesCard

/-- THE SECOND FORM's CARD OF 'toolchestlaw08.ViewsPastes'. -/
def viewsPastesUptoCard : Claim7 := { stood := { row := viewsPastesUptoRow, standIns := [], harness := (true, "357d9ab3bc483f80a18fb8622cc4c364d87a1143362ce4f44dcba559b5248e69"), looks := false }, kinds := [], alts := [], laidByText := true, laidKinds := [.data, .data, .data], laidTests := true, laidLooks := .later }
def ViewsPastesUptoCardSaid : Prop := Claim7.holds Tryd.pinned (.plain (OpenSpec.upto viewsPastesSpec)) viewsPastesUptoCard
end Rows
end Go.Proofs.YtlicjpbmlmongaaDoor
