/-
  DERIVED. GIVEN WITH THE SEED: THE CARDS: each row of YtbndinaiclkajaaDoorRows.lean that lists a variable, with what it lists TIED to the program's text (the seventh form; the later family's looks); each row that meets fmt, with fmt's text TOLD by the authors' own Lean function (tested against real Go, not proved from fmt's source: count such statements apart). THE CARD IS WHAT COUNTS. Prove the row's statement (the work); the ties are given (YtbndinaiclkajaaDoorTie.lean); close each card by the builder's one call (the guide's Derived/Test/ToyasCard.lean, 'card_holds'). Laid BY PROGRAM, IN A SANDBOX (cutbox-door.mjs). By AI agents, Wed Nov 11 2026. No macro, syntax, notation, axiom, sorry.
-/
import Derived.Test.YtbndinaiclkajaaDoorRows
import GoSem.ClaimSeven
namespace Go.Proofs.YtbndinaiclkajaaDoor
namespace Rows

/-- THE TIED CARD OF 'toolchestlaw05.KeysParts'. -/
def keysPartsCard : Claim7 := { stood := { row := keysPartsRow, standIns := [], harness := (true, "4580d6e0a85aef5f0f24d8c5406217ad2b78d917847064a5b52cb330c78d39bc"), looks := false }, kinds := [], alts := [], laidByText := true, laidKinds := [.data, .pinned], laidTests := true, laidLooks := .later }
def KeysPartsCardSaid : Prop := Claim7.holds Tryd.pinned (.plain (OpenSpec.ofChange keysPartsSpec)) keysPartsCard

/-- THE TIED CARD OF 'toolchestlaw05.KeysNumbers'. -/
def keysNumbersCard : Claim7 := { stood := { row := keysNumbersRow, standIns := [], harness := (true, "4580d6e0a85aef5f0f24d8c5406217ad2b78d917847064a5b52cb330c78d39bc"), looks := false }, kinds := [], alts := [], laidByText := true, laidKinds := [.data, .pinned], laidTests := true, laidLooks := .later }
def KeysNumbersCardSaid : Prop := Claim7.holds Tryd.pinned (.plain (OpenSpec.ofChange keysNumbersSpec)) keysNumbersCard

/-- THE TIED CARD OF 'toolchestlaw05.KeysCompares'. -/
def keysComparesCard : Claim7 := { stood := { row := keysComparesRow, standIns := [], harness := (true, "4580d6e0a85aef5f0f24d8c5406217ad2b78d917847064a5b52cb330c78d39bc"), looks := false }, kinds := [], alts := [], laidByText := true, laidKinds := [.data, .pinned], laidTests := true, laidLooks := .later }
def KeysComparesCardSaid : Prop := Claim7.holds Tryd.pinned (.plain (OpenSpec.ofChange keysComparesSpec)) keysComparesCard

/-- THE TIED CARD OF 'toolchestlaw05.KeysTurns'. -/
def keysTurnsCard : Claim7 := { stood := { row := keysTurnsRow, standIns := [], harness := (true, "4580d6e0a85aef5f0f24d8c5406217ad2b78d917847064a5b52cb330c78d39bc"), looks := false }, kinds := [], alts := [], laidByText := true, laidKinds := [.data, .pinned], laidTests := true, laidLooks := .later }
def KeysTurnsCardSaid : Prop := Claim7.holds Tryd.pinned (.plain (OpenSpec.ofChange keysTurnsSpec)) keysTurnsCard

/-- THE TIED CARD OF 'toolchestlaw05.KeysOrder'. -/
def keysOrderCard : Claim7 := { stood := { row := keysOrderRow, standIns := [], harness := (true, "4580d6e0a85aef5f0f24d8c5406217ad2b78d917847064a5b52cb330c78d39bc"), looks := false }, kinds := [], alts := [], laidByText := true, laidKinds := [.data, .pinned], laidTests := true, laidLooks := .later }
def KeysOrderCardSaid : Prop := Claim7.holds Tryd.pinned (.plain (OpenSpec.ofChange keysOrderSpec)) keysOrderCard

/-- THE TIED CARD OF 'toolchestlaw05.KeysWhole'. -/
def keysWholeCard : Claim7 := { stood := { row := keysWholeRow, standIns := [], harness := (true, "4580d6e0a85aef5f0f24d8c5406217ad2b78d917847064a5b52cb330c78d39bc"), looks := false }, kinds := [], alts := [], laidByText := true, laidKinds := [.data, .pinned], laidTests := true, laidLooks := .later }
def KeysWholeCardSaid : Prop := Claim7.holds Tryd.pinned (.plain (OpenSpec.ofChange keysWholeSpec)) keysWholeCard

/-- THE TIED CARD OF 'toolchestlaw05.KeysParted'. -/
def keysPartedCard : Claim7 := { stood := { row := keysPartedRow, standIns := [], harness := (true, "4580d6e0a85aef5f0f24d8c5406217ad2b78d917847064a5b52cb330c78d39bc"), looks := false }, kinds := [], alts := [], laidByText := true, laidKinds := [.data, .pinned], laidTests := true, laidLooks := .later }
def KeysPartedCardSaid : Prop := Claim7.holds Tryd.pinned (.plain (OpenSpec.ofChange keysPartedSpec)) keysPartedCard

/-- THE TIED CARD OF 'toolchestlaw05.KeysFolds'. -/
def keysFoldsCard : Claim7 := { stood := { row := keysFoldsRow, standIns := [], harness := (true, "4580d6e0a85aef5f0f24d8c5406217ad2b78d917847064a5b52cb330c78d39bc"), looks := false }, kinds := [], alts := [], laidByText := true, laidKinds := [.data, .pinned], laidTests := true, laidLooks := .later }
def KeysFoldsCardSaid : Prop := Claim7.holds Tryd.pinned (.plain (OpenSpec.ofChange keysFoldsSpec)) keysFoldsCard

/-- THE TIED CARD OF 'toolchestlaw05.KeysBegin'. -/
def keysBeginCard : Claim7 := { stood := { row := keysBeginRow, standIns := [], harness := (true, "4580d6e0a85aef5f0f24d8c5406217ad2b78d917847064a5b52cb330c78d39bc"), looks := false }, kinds := [], alts := [], laidByText := true, laidKinds := [.data, .pinned], laidTests := true, laidLooks := .later }
def KeysBeginCardSaid : Prop := Claim7.holds Tryd.pinned (.plain (OpenSpec.ofChange keysBeginSpec)) keysBeginCard

/-- THE SECOND FORM's CARD OF 'toolchestlaw05.KeysParts'. -/
def keysPartsUptoCard : Claim7 := { stood := { row := keysPartsUptoRow, standIns := [], harness := (true, "4580d6e0a85aef5f0f24d8c5406217ad2b78d917847064a5b52cb330c78d39bc"), looks := false }, kinds := [], alts := [], laidByText := true, laidKinds := [.data, .pinned], laidTests := true, laidLooks := .later }
def KeysPartsUptoCardSaid : Prop := Claim7.holds Tryd.pinned (.plain (OpenSpec.upto keysPartsSpec)) keysPartsUptoCard

/-- THE SECOND FORM's CARD OF 'toolchestlaw05.KeysNumbers'. -/
def keysNumbersUptoCard : Claim7 := { stood := { row := keysNumbersUptoRow, standIns := [], harness := (true, "4580d6e0a85aef5f0f24d8c5406217ad2b78d917847064a5b52cb330c78d39bc"), looks := false }, kinds := [], alts := [], laidByText := true, laidKinds := [.data, .pinned], laidTests := true, laidLooks := .later }
def KeysNumbersUptoCardSaid : Prop := Claim7.holds Tryd.pinned (.plain (OpenSpec.upto keysNumbersSpec)) keysNumbersUptoCard

/-- THE SECOND FORM's CARD OF 'toolchestlaw05.KeysCompares'. -/
def keysComparesUptoCard : Claim7 := { stood := { row := keysComparesUptoRow, standIns := [], harness := (true, "4580d6e0a85aef5f0f24d8c5406217ad2b78d917847064a5b52cb330c78d39bc"), looks := false }, kinds := [], alts := [], laidByText := true, laidKinds := [.data, .pinned], laidTests := true, laidLooks := .later }
def KeysComparesUptoCardSaid : Prop := Claim7.holds Tryd.pinned (.plain (OpenSpec.upto keysComparesSpec)) keysComparesUptoCard

/-- THE SECOND FORM's CARD OF 'toolchestlaw05.KeysTurns'. -/
def keysTurnsUptoCard : Claim7 := { stood := { row := keysTurnsUptoRow, standIns := [], harness := (true, "4580d6e0a85aef5f0f24d8c5406217ad2b78d917847064a5b52cb330c78d39bc"), looks := false }, kinds := [], alts := [], laidByText := true, laidKinds := [.data, .pinned], laidTests := true, laidLooks := .later }
def KeysTurnsUptoCardSaid : Prop := Claim7.holds Tryd.pinned (.plain (OpenSpec.upto keysTurnsSpec)) keysTurnsUptoCard

/-- THE SECOND FORM's CARD OF 'toolchestlaw05.KeysOrder'. -/
def keysOrderUptoCard : Claim7 := { stood := { row := keysOrderUptoRow, standIns := [], harness := (true, "4580d6e0a85aef5f0f24d8c5406217ad2b78d917847064a5b52cb330c78d39bc"), looks := false }, kinds := [], alts := [], laidByText := true, laidKinds := [.data, .pinned], laidTests := true, laidLooks := .later }
def KeysOrderUptoCardSaid : Prop := Claim7.holds Tryd.pinned (.plain (OpenSpec.upto keysOrderSpec)) keysOrderUptoCard

/-- THE SECOND FORM's CARD OF 'toolchestlaw05.KeysWhole'. -/
def keysWholeUptoCard : Claim7 := { stood := { row := keysWholeUptoRow, standIns := [], harness := (true, "4580d6e0a85aef5f0f24d8c5406217ad2b78d917847064a5b52cb330c78d39bc"), looks := false }, kinds := [], alts := [], laidByText := true, laidKinds := [.data, .pinned], laidTests := true, laidLooks := .later }
def KeysWholeUptoCardSaid : Prop := Claim7.holds Tryd.pinned (.plain (OpenSpec.upto keysWholeSpec)) keysWholeUptoCard

/-- THE SECOND FORM's CARD OF 'toolchestlaw05.KeysParted'. -/
def keysPartedUptoCard : Claim7 := { stood := { row := keysPartedUptoRow, standIns := [], harness := (true, "4580d6e0a85aef5f0f24d8c5406217ad2b78d917847064a5b52cb330c78d39bc"), looks := false }, kinds := [], alts := [], laidByText := true, laidKinds := [.data, .pinned], laidTests := true, laidLooks := .later }
def KeysPartedUptoCardSaid : Prop := Claim7.holds Tryd.pinned (.plain (OpenSpec.upto keysPartedSpec)) keysPartedUptoCard

/-- THE SECOND FORM's CARD OF 'toolchestlaw05.KeysFolds'. -/
def keysFoldsUptoCard : Claim7 := { stood := { row := keysFoldsUptoRow, standIns := [], harness := (true, "4580d6e0a85aef5f0f24d8c5406217ad2b78d917847064a5b52cb330c78d39bc"), looks := false }, kinds := [], alts := [], laidByText := true, laidKinds := [.data, .pinned], laidTests := true, laidLooks := .later }
def KeysFoldsUptoCardSaid : Prop := Claim7.holds Tryd.pinned (.plain (OpenSpec.upto keysFoldsSpec)) keysFoldsUptoCard

/-- THE SECOND FORM's CARD OF 'toolchestlaw05.KeysBegin'. -/
def keysBeginUptoCard : Claim7 := { stood := { row := keysBeginUptoRow, standIns := [], harness := (true, "4580d6e0a85aef5f0f24d8c5406217ad2b78d917847064a5b52cb330c78d39bc"), looks := false }, kinds := [], alts := [], laidByText := true, laidKinds := [.data, .pinned], laidTests := true, laidLooks := .later }
def KeysBeginUptoCardSaid : Prop := Claim7.holds Tryd.pinned (.plain (OpenSpec.upto keysBeginSpec)) keysBeginUptoCard
end Rows
end Go.Proofs.YtbndinaiclkajaaDoor
