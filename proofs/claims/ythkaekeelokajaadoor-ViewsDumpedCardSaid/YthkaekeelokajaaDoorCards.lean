/-
  DERIVED. GIVEN WITH THE SEED: THE CARDS: each row of YthkaekeelokajaaDoorRows.lean that lists a variable, with what it lists TIED to the program's text (the seventh form; the later family's looks); each row that meets fmt, with fmt's text TOLD by the authors' own Lean function (tested against real Go, not proved from fmt's source: count such statements apart). THE CARD IS WHAT COUNTS. Prove the row's statement (the work); the ties are given (YthkaekeelokajaaDoorTie.lean); close each card by the builder's one call (the guide's Derived/Test/ToyasCard.lean, 'card_holds'). Laid BY PROGRAM, IN A SANDBOX (cutbox-door.mjs). By AI agents, Wed Nov 11 2026. No macro, syntax, notation, axiom, sorry.
-/
import Derived.Test.YthkaekeelokajaaDoorRows
import GoSem.ClaimSeven
namespace Go.Proofs.YthkaekeelokajaaDoor
namespace Rows

/-- THE TIED CARD OF 'toolchestlaw08.ViewsPastes'. -/
def viewsPastesCard : Claim7 := { stood := { row := viewsPastesRow, standIns := [], harness := (true, "3ce0ad9968c8ea365c6731162d2a38afd303bd6cac42426f3d6d38be91f4053a"), looks := false }, kinds := [], alts := [], laidByText := true, laidKinds := [.data, .data, .data], laidTests := true, laidLooks := .later }
def ViewsPastesCardSaid : Prop := Claim7.holds Tryd.pinned (.plain (OpenSpec.ofChange viewsPastesSpec)) viewsPastesCard

/-- THE TIED CARD OF 'toolchestlaw08.ViewsSums'. -/
def viewsSumsCard : Claim7 := { stood := { row := viewsSumsRow, standIns := [], harness := (true, "3ce0ad9968c8ea365c6731162d2a38afd303bd6cac42426f3d6d38be91f4053a"), looks := false }, kinds := [], alts := [], laidByText := true, laidKinds := [.data, .data, .data], laidTests := true, laidLooks := .later }
def ViewsSumsCardSaid : Prop := Claim7.holds Tryd.pinned (.plain (OpenSpec.ofChange viewsSumsSpec)) viewsSumsCard

/-- THE TIED CARD OF 'toolchestlaw08.ViewsAlone'. -/
def viewsAloneCard : Claim7 := { stood := { row := viewsAloneRow, standIns := [], harness := (true, "3ce0ad9968c8ea365c6731162d2a38afd303bd6cac42426f3d6d38be91f4053a"), looks := false }, kinds := [], alts := [], laidByText := true, laidKinds := [.data, .data, .data], laidTests := true, laidLooks := .later }
def ViewsAloneCardSaid : Prop := Claim7.holds Tryd.pinned (.plain (OpenSpec.ofChange viewsAloneSpec)) viewsAloneCard

/-- THE TIED CARD OF 'toolchestlaw08.ViewsTurns'. -/
def viewsTurnsCard : Claim7 := { stood := { row := viewsTurnsRow, standIns := [], harness := (true, "3ce0ad9968c8ea365c6731162d2a38afd303bd6cac42426f3d6d38be91f4053a"), looks := false }, kinds := [], alts := [], laidByText := true, laidKinds := [.data, .data, .data], laidTests := true, laidLooks := .later }
def ViewsTurnsCardSaid : Prop := Claim7.holds Tryd.pinned (.plain (OpenSpec.ofChange viewsTurnsSpec)) viewsTurnsCard

/-- THE TIED CARD OF 'toolchestlaw08.ViewsKeys'. -/
def viewsKeysCard : Claim7 := { stood := { row := viewsKeysRow, standIns := [], harness := (true, "3ce0ad9968c8ea365c6731162d2a38afd303bd6cac42426f3d6d38be91f4053a"), looks := false }, kinds := [], alts := [], laidByText := true, laidKinds := [.data, .data, .data], laidTests := true, laidLooks := .later }
def ViewsKeysCardSaid : Prop := Claim7.holds Tryd.pinned (.plain (OpenSpec.ofChange viewsKeysSpec)) viewsKeysCard

/-- THE TIED CARD OF 'toolchestlaw08.ViewsRest'. -/
def viewsRestCard : Claim7 := { stood := { row := viewsRestRow, standIns := [], harness := (true, "3ce0ad9968c8ea365c6731162d2a38afd303bd6cac42426f3d6d38be91f4053a"), looks := false }, kinds := [], alts := [], laidByText := true, laidKinds := [.data, .data, .data], laidTests := true, laidLooks := .later }
def ViewsRestCardSaid : Prop := Claim7.holds Tryd.pinned (.plain (OpenSpec.ofChange viewsRestSpec)) viewsRestCard

/-- THE TIED CARD OF 'toolchestlaw08.ViewsSumOne'. -/
def viewsSumOneCard : Claim7 := { stood := { row := viewsSumOneRow, standIns := [], harness := (true, "3ce0ad9968c8ea365c6731162d2a38afd303bd6cac42426f3d6d38be91f4053a"), looks := false }, kinds := [], alts := [], laidByText := true, laidKinds := [.data, .data, .data], laidTests := true, laidLooks := .later }
def ViewsSumOneCardSaid : Prop := Claim7.holds Tryd.pinned (.plain (OpenSpec.ofChange viewsSumOneSpec)) viewsSumOneCard

/-- THE TIED CARD OF 'toolchestlaw08.ViewsDumped'. -/
def viewsDumpedCard : Claim7 := { stood := { row := viewsDumpedRow, standIns := [], harness := (true, "3ce0ad9968c8ea365c6731162d2a38afd303bd6cac42426f3d6d38be91f4053a"), looks := false }, kinds := [], alts := [], laidByText := true, laidKinds := [.data, .data, .data], laidTests := true, laidLooks := .later }
def ViewsDumpedCardSaid : Prop := Claim7.holds Tryd.pinned (.plain (OpenSpec.ofChange viewsDumpedSpec)) viewsDumpedCard

/-- THE TIED CARD OF 'toolchestlaw08.ViewsSame'. -/
def viewsSameCard : Claim7 := { stood := { row := viewsSameRow, standIns := [], harness := (true, "3ce0ad9968c8ea365c6731162d2a38afd303bd6cac42426f3d6d38be91f4053a"), looks := false }, kinds := [], alts := [], laidByText := true, laidKinds := [.data, .data, .data], laidTests := true, laidLooks := .later }
def ViewsSameCardSaid : Prop := Claim7.holds Tryd.pinned (.plain (OpenSpec.ofChange viewsSameSpec)) viewsSameCard

/-- THE SECOND FORM's CARD OF 'toolchestlaw08.ViewsPastes'. -/
def viewsPastesUptoCard : Claim7 := { stood := { row := viewsPastesUptoRow, standIns := [], harness := (true, "3ce0ad9968c8ea365c6731162d2a38afd303bd6cac42426f3d6d38be91f4053a"), looks := false }, kinds := [], alts := [], laidByText := true, laidKinds := [.data, .data, .data], laidTests := true, laidLooks := .later }
def ViewsPastesUptoCardSaid : Prop := Claim7.holds Tryd.pinned (.plain (OpenSpec.upto viewsPastesSpec)) viewsPastesUptoCard

/-- THE SECOND FORM's CARD OF 'toolchestlaw08.ViewsSums'. -/
def viewsSumsUptoCard : Claim7 := { stood := { row := viewsSumsUptoRow, standIns := [], harness := (true, "3ce0ad9968c8ea365c6731162d2a38afd303bd6cac42426f3d6d38be91f4053a"), looks := false }, kinds := [], alts := [], laidByText := true, laidKinds := [.data, .data, .data], laidTests := true, laidLooks := .later }
def ViewsSumsUptoCardSaid : Prop := Claim7.holds Tryd.pinned (.plain (OpenSpec.upto viewsSumsSpec)) viewsSumsUptoCard

/-- THE SECOND FORM's CARD OF 'toolchestlaw08.ViewsAlone'. -/
def viewsAloneUptoCard : Claim7 := { stood := { row := viewsAloneUptoRow, standIns := [], harness := (true, "3ce0ad9968c8ea365c6731162d2a38afd303bd6cac42426f3d6d38be91f4053a"), looks := false }, kinds := [], alts := [], laidByText := true, laidKinds := [.data, .data, .data], laidTests := true, laidLooks := .later }
def ViewsAloneUptoCardSaid : Prop := Claim7.holds Tryd.pinned (.plain (OpenSpec.upto viewsAloneSpec)) viewsAloneUptoCard

/-- THE SECOND FORM's CARD OF 'toolchestlaw08.ViewsTurns'. -/
def viewsTurnsUptoCard : Claim7 := { stood := { row := viewsTurnsUptoRow, standIns := [], harness := (true, "3ce0ad9968c8ea365c6731162d2a38afd303bd6cac42426f3d6d38be91f4053a"), looks := false }, kinds := [], alts := [], laidByText := true, laidKinds := [.data, .data, .data], laidTests := true, laidLooks := .later }
def ViewsTurnsUptoCardSaid : Prop := Claim7.holds Tryd.pinned (.plain (OpenSpec.upto viewsTurnsSpec)) viewsTurnsUptoCard

/-- THE SECOND FORM's CARD OF 'toolchestlaw08.ViewsKeys'. -/
def viewsKeysUptoCard : Claim7 := { stood := { row := viewsKeysUptoRow, standIns := [], harness := (true, "3ce0ad9968c8ea365c6731162d2a38afd303bd6cac42426f3d6d38be91f4053a"), looks := false }, kinds := [], alts := [], laidByText := true, laidKinds := [.data, .data, .data], laidTests := true, laidLooks := .later }
def ViewsKeysUptoCardSaid : Prop := Claim7.holds Tryd.pinned (.plain (OpenSpec.upto viewsKeysSpec)) viewsKeysUptoCard

/-- THE SECOND FORM's CARD OF 'toolchestlaw08.ViewsRest'. -/
def viewsRestUptoCard : Claim7 := { stood := { row := viewsRestUptoRow, standIns := [], harness := (true, "3ce0ad9968c8ea365c6731162d2a38afd303bd6cac42426f3d6d38be91f4053a"), looks := false }, kinds := [], alts := [], laidByText := true, laidKinds := [.data, .data, .data], laidTests := true, laidLooks := .later }
def ViewsRestUptoCardSaid : Prop := Claim7.holds Tryd.pinned (.plain (OpenSpec.upto viewsRestSpec)) viewsRestUptoCard

/-- THE SECOND FORM's CARD OF 'toolchestlaw08.ViewsSumOne'. -/
def viewsSumOneUptoCard : Claim7 := { stood := { row := viewsSumOneUptoRow, standIns := [], harness := (true, "3ce0ad9968c8ea365c6731162d2a38afd303bd6cac42426f3d6d38be91f4053a"), looks := false }, kinds := [], alts := [], laidByText := true, laidKinds := [.data, .data, .data], laidTests := true, laidLooks := .later }
def ViewsSumOneUptoCardSaid : Prop := Claim7.holds Tryd.pinned (.plain (OpenSpec.upto viewsSumOneSpec)) viewsSumOneUptoCard

/-- THE SECOND FORM's CARD OF 'toolchestlaw08.ViewsDumped'. -/
def viewsDumpedUptoCard : Claim7 := { stood := { row := viewsDumpedUptoRow, standIns := [], harness := (true, "3ce0ad9968c8ea365c6731162d2a38afd303bd6cac42426f3d6d38be91f4053a"), looks := false }, kinds := [], alts := [], laidByText := true, laidKinds := [.data, .data, .data], laidTests := true, laidLooks := .later }
def ViewsDumpedUptoCardSaid : Prop := Claim7.holds Tryd.pinned (.plain (OpenSpec.upto viewsDumpedSpec)) viewsDumpedUptoCard

/-- THE SECOND FORM's CARD OF 'toolchestlaw08.ViewsSame'. -/
def viewsSameUptoCard : Claim7 := { stood := { row := viewsSameUptoRow, standIns := [], harness := (true, "3ce0ad9968c8ea365c6731162d2a38afd303bd6cac42426f3d6d38be91f4053a"), looks := false }, kinds := [], alts := [], laidByText := true, laidKinds := [.data, .data, .data], laidTests := true, laidLooks := .later }
def ViewsSameUptoCardSaid : Prop := Claim7.holds Tryd.pinned (.plain (OpenSpec.upto viewsSameSpec)) viewsSameUptoCard
end Rows
end Go.Proofs.YthkaekeelokajaaDoor
