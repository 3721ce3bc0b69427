/-
  DERIVED. GIVEN WITH THE SEED: THE CARDS: each row of YtkedjlekeohpaaaDoorRows.lean that lists a variable, with what it lists TIED to the program's text (the seventh form; the later family's looks); each row that meets fmt, with fmt's text TOLD by the authors' own Lean function (tested against real Go, not proved from fmt's source: count such statements apart). THE CARD IS WHAT COUNTS. Prove the row's statement (the work); the ties are given (YtkedjlekeohpaaaDoorTie.lean); close each card by the builder's one call (the guide's Derived/Test/ToyasCard.lean, 'card_holds'). Laid BY PROGRAM, IN A SANDBOX (cutbox-door.mjs). By AI agents, Wed Nov 11 2026. No macro, syntax, notation, axiom, sorry.
-/
import Derived.Test.YtkedjlekeohpaaaDoorRows
import GoSem.ClaimSeven
namespace Go.Proofs.YtkedjlekeohpaaaDoor
namespace Rows

/-- THE TIED CARD OF 'toolchestlaw07.CutsFields'. -/
def cutsFieldsCard : Claim7 := { stood := { row := cutsFieldsRow, standIns := [], harness := (true, "d4db0ef7b81e11ac92e2b1f0a4f084c84dc383e60b107575b28fb05617e8e7a4"), looks := false }, kinds := [], alts := [], laidByText := true, laidKinds := [.data, .pinned], laidTests := true, laidLooks := .later }
def CutsFieldsCardSaid : Prop := Claim7.holds Tryd.pinned (.plain (OpenSpec.ofChange cutsFieldsSpec)) cutsFieldsCard

/-- THE TIED CARD OF 'toolchestlaw07.CutsAll'. -/
def cutsAllCard : Claim7 := { stood := { row := cutsAllRow, standIns := [], harness := (true, "d4db0ef7b81e11ac92e2b1f0a4f084c84dc383e60b107575b28fb05617e8e7a4"), looks := false }, kinds := [], alts := [], laidByText := true, laidKinds := [.data, .data, .data, .data, .pinned], laidTests := true, laidLooks := .later }
def CutsAllCardSaid : Prop := Claim7.holds Tryd.pinned (.plain (OpenSpec.ofChange cutsAllSpec)) cutsAllCard

/-- THE TIED CARD OF 'toolchestlaw07.CutsPlaces'. -/
def cutsPlacesCard : Claim7 := { stood := { row := cutsPlacesRow, standIns := [], harness := (true, "d4db0ef7b81e11ac92e2b1f0a4f084c84dc383e60b107575b28fb05617e8e7a4"), looks := false }, kinds := [], alts := [], laidByText := true, laidKinds := [.data, .data, .data, .data, .pinned], laidTests := true, laidLooks := .later }
def CutsPlacesCardSaid : Prop := Claim7.holds Tryd.pinned (.plain (OpenSpec.ofChange cutsPlacesSpec)) cutsPlacesCard

/-- THE TIED CARD OF 'toolchestlaw07.CutsParts'. -/
def cutsPartsCard : Claim7 := { stood := { row := cutsPartsRow, standIns := [], harness := (true, "d4db0ef7b81e11ac92e2b1f0a4f084c84dc383e60b107575b28fb05617e8e7a4"), looks := false }, kinds := [], alts := [], laidByText := true, laidKinds := [.data, .data, .data, .data, .pinned], laidTests := true, laidLooks := .later }
def CutsPartsCardSaid : Prop := Claim7.holds Tryd.pinned (.plain (OpenSpec.ofChange cutsPartsSpec)) cutsPartsCard

/-- THE TIED CARD OF 'toolchestlaw07.CutsTabs'. -/
def cutsTabsCard : Claim7 := { stood := { row := cutsTabsRow, standIns := [], harness := (true, "d4db0ef7b81e11ac92e2b1f0a4f084c84dc383e60b107575b28fb05617e8e7a4"), looks := false }, kinds := [], alts := [], laidByText := true, laidKinds := [.data, .data, .data, .data, .pinned], laidTests := true, laidLooks := .later }
def CutsTabsCardSaid : Prop := Claim7.holds Tryd.pinned (.plain (OpenSpec.ofChange cutsTabsSpec)) cutsTabsCard

/-- THE TIED CARD OF 'toolchestlaw07.CutsLines'. -/
def cutsLinesCard : Claim7 := { stood := { row := cutsLinesRow, standIns := [], harness := (true, "d4db0ef7b81e11ac92e2b1f0a4f084c84dc383e60b107575b28fb05617e8e7a4"), looks := false }, kinds := [], alts := [], laidByText := true, laidKinds := [.data, .data, .data, .data, .pinned], laidTests := true, laidLooks := .later }
def CutsLinesCardSaid : Prop := Claim7.holds Tryd.pinned (.plain (OpenSpec.ofChange cutsLinesSpec)) cutsLinesCard

/-- THE TIED CARD OF 'toolchestlaw07.CutsSingle'. -/
def cutsSingleCard : Claim7 := { stood := { row := cutsSingleRow, standIns := [], harness := (true, "d4db0ef7b81e11ac92e2b1f0a4f084c84dc383e60b107575b28fb05617e8e7a4"), looks := false }, kinds := [], alts := [], laidByText := true, laidKinds := [.data, .data, .data, .data, .pinned], laidTests := true, laidLooks := .later }
def CutsSingleCardSaid : Prop := Claim7.holds Tryd.pinned (.plain (OpenSpec.ofChange cutsSingleSpec)) cutsSingleCard

/-- THE SECOND FORM's CARD OF 'toolchestlaw07.CutsFields'. -/
def cutsFieldsUptoCard : Claim7 := { stood := { row := cutsFieldsUptoRow, standIns := [], harness := (true, "d4db0ef7b81e11ac92e2b1f0a4f084c84dc383e60b107575b28fb05617e8e7a4"), looks := false }, kinds := [], alts := [], laidByText := true, laidKinds := [.data, .pinned], laidTests := true, laidLooks := .later }
def CutsFieldsUptoCardSaid : Prop := Claim7.holds Tryd.pinned (.plain (OpenSpec.upto cutsFieldsSpec)) cutsFieldsUptoCard

/-- THE SECOND FORM's CARD OF 'toolchestlaw07.CutsAll'. -/
def cutsAllUptoCard : Claim7 := { stood := { row := cutsAllUptoRow, standIns := [], harness := (true, "d4db0ef7b81e11ac92e2b1f0a4f084c84dc383e60b107575b28fb05617e8e7a4"), looks := false }, kinds := [], alts := [], laidByText := true, laidKinds := [.data, .data, .data, .data, .pinned], laidTests := true, laidLooks := .later }
def CutsAllUptoCardSaid : Prop := Claim7.holds Tryd.pinned (.plain (OpenSpec.upto cutsAllSpec)) cutsAllUptoCard

/-- THE SECOND FORM's CARD OF 'toolchestlaw07.CutsPlaces'. -/
def cutsPlacesUptoCard : Claim7 := { stood := { row := cutsPlacesUptoRow, standIns := [], harness := (true, "d4db0ef7b81e11ac92e2b1f0a4f084c84dc383e60b107575b28fb05617e8e7a4"), looks := false }, kinds := [], alts := [], laidByText := true, laidKinds := [.data, .data, .data, .data, .pinned], laidTests := true, laidLooks := .later }
def CutsPlacesUptoCardSaid : Prop := Claim7.holds Tryd.pinned (.plain (OpenSpec.upto cutsPlacesSpec)) cutsPlacesUptoCard

/-- THE SECOND FORM's CARD OF 'toolchestlaw07.CutsParts'. -/
def cutsPartsUptoCard : Claim7 := { stood := { row := cutsPartsUptoRow, standIns := [], harness := (true, "d4db0ef7b81e11ac92e2b1f0a4f084c84dc383e60b107575b28fb05617e8e7a4"), looks := false }, kinds := [], alts := [], laidByText := true, laidKinds := [.data, .data, .data, .data, .pinned], laidTests := true, laidLooks := .later }
def CutsPartsUptoCardSaid : Prop := Claim7.holds Tryd.pinned (.plain (OpenSpec.upto cutsPartsSpec)) cutsPartsUptoCard

/-- THE SECOND FORM's CARD OF 'toolchestlaw07.CutsTabs'. -/
def cutsTabsUptoCard : Claim7 := { stood := { row := cutsTabsUptoRow, standIns := [], harness := (true, "d4db0ef7b81e11ac92e2b1f0a4f084c84dc383e60b107575b28fb05617e8e7a4"), looks := false }, kinds := [], alts := [], laidByText := true, laidKinds := [.data, .data, .data, .data, .pinned], laidTests := true, laidLooks := .later }
def CutsTabsUptoCardSaid : Prop := Claim7.holds Tryd.pinned (.plain (OpenSpec.upto cutsTabsSpec)) cutsTabsUptoCard

/-- THE SECOND FORM's CARD OF 'toolchestlaw07.CutsLines'. -/
def cutsLinesUptoCard : Claim7 := { stood := { row := cutsLinesUptoRow, standIns := [], harness := (true, "d4db0ef7b81e11ac92e2b1f0a4f084c84dc383e60b107575b28fb05617e8e7a4"), looks := false }, kinds := [], alts := [], laidByText := true, laidKinds := [.data, .data, .data, .data, .pinned], laidTests := true, laidLooks := .later }
def CutsLinesUptoCardSaid : Prop := Claim7.holds Tryd.pinned (.plain (OpenSpec.upto cutsLinesSpec)) cutsLinesUptoCard

/-- THE SECOND FORM's CARD OF 'toolchestlaw07.CutsSingle'. -/
def cutsSingleUptoCard : Claim7 := { stood := { row := cutsSingleUptoRow, standIns := [], harness := (true, "d4db0ef7b81e11ac92e2b1f0a4f084c84dc383e60b107575b28fb05617e8e7a4"), looks := false }, kinds := [], alts := [], laidByText := true, laidKinds := [.data, .data, .data, .data, .pinned], laidTests := true, laidLooks := .later }
def CutsSingleUptoCardSaid : Prop := Claim7.holds Tryd.pinned (.plain (OpenSpec.upto cutsSingleSpec)) cutsSingleUptoCard
end Rows
end Go.Proofs.YtkedjlekeohpaaaDoor
