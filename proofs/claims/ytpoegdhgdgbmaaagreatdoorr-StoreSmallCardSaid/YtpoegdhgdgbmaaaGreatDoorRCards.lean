/-
  DERIVED. GIVEN WITH THE SEED: THE CARDS: each row of YtpoegdhgdgbmaaaGreatDoorRRows.lean that lists a variable, with what it lists TIED to the program's text (the seventh form; the later family's looks); each row that meets fmt, with fmt's text TOLD by the authors' own Lean function (tested against real Go, not proved from fmt's source: count such statements apart). THE CARD IS WHAT COUNTS. Prove the row's statement (the work); the ties are given (YtpoegdhgdgbmaaaGreatDoorRTie.lean); close each card by the builder's one call (the guide's Derived/Test/ToyasCard.lean, 'card_holds'). Laid BY PROGRAM, IN A SANDBOX (cutbox-door.mjs). By AI agents, Wed Nov 11 2026. No macro, syntax, notation, axiom, sorry.
-/
import Derived.Test.YtpoegdhgdgbmaaaGreatDoorRRows
import GoSem.ClaimSeven
namespace Go.Proofs.YtpoegdhgdgbmaaaGreatDoorR
namespace Rows

/-- THE TIED CARD OF 'ostlerlaw11.StoreTells'. -/
def storeTellsCard : Claim7 := { stood := { row := storeTellsRow, standIns := [], harness := (true, "7576d2889bbc4d285da0ee11435bf3f4e2e4189d0189785a7d3299564da3d094"), looks := false }, kinds := [], alts := [], laidByText := true, laidKinds := [.data, .data, .data, .data, .pinned], laidTests := true, laidLooks := .later }
def StoreTellsCardSaid : Prop := Claim7.holds Tryz.pinned (.plain (OpenSpec.ofChange storeTellsSpec)) storeTellsCard

/-- THE TIED CARD OF 'ostlerlaw11.StoreAtoms'. -/
def storeAtomsCard : Claim7 := { stood := { row := storeAtomsRow, standIns := [], harness := (true, "7576d2889bbc4d285da0ee11435bf3f4e2e4189d0189785a7d3299564da3d094"), looks := false }, kinds := [], alts := [], laidByText := true, laidKinds := [.data, .data, .data, .data, .pinned], laidTests := true, laidLooks := .later }
def StoreAtomsCardSaid : Prop := Claim7.holds Tryz.pinned (.plain (OpenSpec.ofChange storeAtomsSpec)) storeAtomsCard

/-- THE TIED CARD OF 'ostlerlaw11.StoreSmall'. -/
def storeSmallCard : Claim7 := { stood := { row := storeSmallRow, standIns := [], harness := (true, "7576d2889bbc4d285da0ee11435bf3f4e2e4189d0189785a7d3299564da3d094"), looks := false }, kinds := [], alts := [], laidByText := true, laidKinds := [.data, .data, .data, .data, .pinned], laidTests := true, laidLooks := .later }
def StoreSmallCardSaid : Prop := Claim7.holds Tryz.pinned (.plain (OpenSpec.ofChange storeSmallSpec)) storeSmallCard

/-- THE TIED CARD OF 'ostlerlaw11.StoreKeeps'. -/
def storeKeepsCard : Claim7 := { stood := { row := storeKeepsRow, standIns := [], harness := (true, "7576d2889bbc4d285da0ee11435bf3f4e2e4189d0189785a7d3299564da3d094"), looks := false }, kinds := [], alts := [], laidByText := true, laidKinds := [.data, .data, .data, .data, .pinned], laidTests := true, laidLooks := .later }
def StoreKeepsCardSaid : Prop := Claim7.holds Tryz.pinned (.plain (OpenSpec.ofChange storeKeepsSpec)) storeKeepsCard

/-- THE TIED CARD OF 'ostlerlaw11.StoreSorts'. -/
def storeSortsCard : Claim7 := { stood := { row := storeSortsRow, standIns := [], harness := (true, "7576d2889bbc4d285da0ee11435bf3f4e2e4189d0189785a7d3299564da3d094"), looks := false }, kinds := [], alts := [], laidByText := true, laidKinds := [.data, .data, .data, .data, .pinned], laidTests := true, laidLooks := .later }
def StoreSortsCardSaid : Prop := Claim7.holds Tryz.pinned (.plain (OpenSpec.ofChange storeSortsSpec)) storeSortsCard

/-- THE TIED CARD OF 'ostlerlaw11.StoreCopies'. -/
def storeCopiesCard : Claim7 := { stood := { row := storeCopiesRow, standIns := [], harness := (true, "7576d2889bbc4d285da0ee11435bf3f4e2e4189d0189785a7d3299564da3d094"), looks := false }, kinds := [], alts := [], laidByText := true, laidKinds := [.data, .data, .data, .data, .pinned], laidTests := true, laidLooks := .later }
def StoreCopiesCardSaid : Prop := Claim7.holds Tryz.pinned (.plain (OpenSpec.ofChange storeCopiesSpec)) storeCopiesCard

/-- THE TIED CARD OF 'ostlerlaw11.StoreNone'. -/
def storeNoneCard : Claim7 := { stood := { row := storeNoneRow, standIns := [], harness := (true, "7576d2889bbc4d285da0ee11435bf3f4e2e4189d0189785a7d3299564da3d094"), looks := false }, kinds := [], alts := [], laidByText := true, laidKinds := [.data, .data, .data, .data, .pinned], laidTests := true, laidLooks := .later }
def StoreNoneCardSaid : Prop := Claim7.holds Tryz.pinned (.plain (OpenSpec.ofChange storeNoneSpec)) storeNoneCard

/-- THE SECOND FORM's CARD OF 'ostlerlaw11.StoreTells'. -/
def storeTellsUptoCard : Claim7 := { stood := { row := storeTellsUptoRow, standIns := [], harness := (true, "7576d2889bbc4d285da0ee11435bf3f4e2e4189d0189785a7d3299564da3d094"), looks := false }, kinds := [], alts := [], laidByText := true, laidKinds := [.data, .data, .data, .data, .pinned], laidTests := true, laidLooks := .later }
def StoreTellsUptoCardSaid : Prop := Claim7.holds Tryz.pinned (.plain (OpenSpec.upto storeTellsSpec)) storeTellsUptoCard

/-- THE SECOND FORM's CARD OF 'ostlerlaw11.StoreAtoms'. -/
def storeAtomsUptoCard : Claim7 := { stood := { row := storeAtomsUptoRow, standIns := [], harness := (true, "7576d2889bbc4d285da0ee11435bf3f4e2e4189d0189785a7d3299564da3d094"), looks := false }, kinds := [], alts := [], laidByText := true, laidKinds := [.data, .data, .data, .data, .pinned], laidTests := true, laidLooks := .later }
def StoreAtomsUptoCardSaid : Prop := Claim7.holds Tryz.pinned (.plain (OpenSpec.upto storeAtomsSpec)) storeAtomsUptoCard

/-- THE SECOND FORM's CARD OF 'ostlerlaw11.StoreSmall'. -/
def storeSmallUptoCard : Claim7 := { stood := { row := storeSmallUptoRow, standIns := [], harness := (true, "7576d2889bbc4d285da0ee11435bf3f4e2e4189d0189785a7d3299564da3d094"), looks := false }, kinds := [], alts := [], laidByText := true, laidKinds := [.data, .data, .data, .data, .pinned], laidTests := true, laidLooks := .later }
def StoreSmallUptoCardSaid : Prop := Claim7.holds Tryz.pinned (.plain (OpenSpec.upto storeSmallSpec)) storeSmallUptoCard

/-- THE SECOND FORM's CARD OF 'ostlerlaw11.StoreKeeps'. -/
def storeKeepsUptoCard : Claim7 := { stood := { row := storeKeepsUptoRow, standIns := [], harness := (true, "7576d2889bbc4d285da0ee11435bf3f4e2e4189d0189785a7d3299564da3d094"), looks := false }, kinds := [], alts := [], laidByText := true, laidKinds := [.data, .data, .data, .data, .pinned], laidTests := true, laidLooks := .later }
def StoreKeepsUptoCardSaid : Prop := Claim7.holds Tryz.pinned (.plain (OpenSpec.upto storeKeepsSpec)) storeKeepsUptoCard

/-- THE SECOND FORM's CARD OF 'ostlerlaw11.StoreSorts'. -/
def storeSortsUptoCard : Claim7 := { stood := { row := storeSortsUptoRow, standIns := [], harness := (true, "7576d2889bbc4d285da0ee11435bf3f4e2e4189d0189785a7d3299564da3d094"), looks := false }, kinds := [], alts := [], laidByText := true, laidKinds := [.data, .data, .data, .data, .pinned], laidTests := true, laidLooks := .later }
def StoreSortsUptoCardSaid : Prop := Claim7.holds Tryz.pinned (.plain (OpenSpec.upto storeSortsSpec)) storeSortsUptoCard

/-- THE SECOND FORM's CARD OF 'ostlerlaw11.StoreCopies'. -/
def storeCopiesUptoCard : Claim7 := { stood := { row := storeCopiesUptoRow, standIns := [], harness := (true, "7576d2889bbc4d285da0ee11435bf3f4e2e4189d0189785a7d3299564da3d094"), looks := false }, kinds := [], alts := [], laidByText := true, laidKinds := [.data, .data, .data, .data, .pinned], laidTests := true, laidLooks := .later }
def StoreCopiesUptoCardSaid : Prop := Claim7.holds Tryz.pinned (.plain (OpenSpec.upto storeCopiesSpec)) storeCopiesUptoCard

/-- THE SECOND FORM's CARD OF 'ostlerlaw11.StoreNone'. -/
def storeNoneUptoCard : Claim7 := { stood := { row := storeNoneUptoRow, standIns := [], harness := (true, "7576d2889bbc4d285da0ee11435bf3f4e2e4189d0189785a7d3299564da3d094"), looks := false }, kinds := [], alts := [], laidByText := true, laidKinds := [.data, .data, .data, .data, .pinned], laidTests := true, laidLooks := .later }
def StoreNoneUptoCardSaid : Prop := Claim7.holds Tryz.pinned (.plain (OpenSpec.upto storeNoneSpec)) storeNoneUptoCard
end Rows
end Go.Proofs.YtpoegdhgdgbmaaaGreatDoorR
