/-
  DERIVED. GIVEN WITH THE SEED: THE CARDS: each row of YtkedjlekeohpaaaGreatDoorRows.lean that lists a variable, with what it lists TIED to the program's text (the seventh form; the later family's looks); each row that meets fmt, with fmt's text TOLD by the authors' own Lean function (tested against real Go, not proved from fmt's source: count such statements apart). THE CARD IS WHAT COUNTS. Prove the row's statement (the work); the ties are given (YtkedjlekeohpaaaGreatDoorTie.lean); close each card by the builder's one call (the guide's Derived/Test/ToyasCard.lean, 'card_holds'). Laid BY PROGRAM, IN A SANDBOX (cutbox-door.mjs). By AI agents, Wed Nov 11 2026. No macro, syntax, notation, axiom, sorry.
-/
import Derived.Test.YtkedjlekeohpaaaGreatDoorRows
import GoSem.ClaimSeven
namespace Go.Proofs.YtkedjlekeohpaaaGreatDoor
namespace Rows

/-- THE TIED CARD OF 'toolchestlaw07.CutsNumbers'. -/
def cutsNumbersCard : Claim7 := { stood := { row := cutsNumbersRow, standIns := [], harness := (true, "c93c36bff23aede57fa616ed45b91c5d199040f6282b838ad392261aaaca6274"), looks := false }, kinds := [], alts := [], laidByText := true, laidKinds := [.data, .data, .data], laidTests := true, laidLooks := .later }
def CutsNumbersCardSaid : Prop := Claim7.holds Tryz.pinned (.plain (OpenSpec.ofChange cutsNumbersSpec)) cutsNumbersCard

/-- THE TIED CARD OF 'toolchestlaw07.CutsFolds'. -/
def cutsFoldsCard : Claim7 := { stood := { row := cutsFoldsRow, standIns := [], harness := (true, "c93c36bff23aede57fa616ed45b91c5d199040f6282b838ad392261aaaca6274"), looks := false }, kinds := [], alts := [], laidByText := true, laidKinds := [.data, .data, .data, .data, .pinned], laidTests := true, laidLooks := .later }
def CutsFoldsCardSaid : Prop := Claim7.holds Tryz.pinned (.plain (OpenSpec.ofChange cutsFoldsSpec)) cutsFoldsCard

/-- THE SECOND FORM's CARD OF 'toolchestlaw07.CutsNumbers'. -/
def cutsNumbersUptoCard : Claim7 := { stood := { row := cutsNumbersUptoRow, standIns := [], harness := (true, "c93c36bff23aede57fa616ed45b91c5d199040f6282b838ad392261aaaca6274"), looks := false }, kinds := [], alts := [], laidByText := true, laidKinds := [.data, .data, .data], laidTests := true, laidLooks := .later }
def CutsNumbersUptoCardSaid : Prop := Claim7.holds Tryz.pinned (.plain (OpenSpec.upto cutsNumbersSpec)) cutsNumbersUptoCard

/-- THE SECOND FORM's CARD OF 'toolchestlaw07.CutsFolds'. -/
def cutsFoldsUptoCard : Claim7 := { stood := { row := cutsFoldsUptoRow, standIns := [], harness := (true, "c93c36bff23aede57fa616ed45b91c5d199040f6282b838ad392261aaaca6274"), looks := false }, kinds := [], alts := [], laidByText := true, laidKinds := [.data, .data, .data, .data, .pinned], laidTests := true, laidLooks := .later }
def CutsFoldsUptoCardSaid : Prop := Claim7.holds Tryz.pinned (.plain (OpenSpec.upto cutsFoldsSpec)) cutsFoldsUptoCard
end Rows
end Go.Proofs.YtkedjlekeohpaaaGreatDoor
