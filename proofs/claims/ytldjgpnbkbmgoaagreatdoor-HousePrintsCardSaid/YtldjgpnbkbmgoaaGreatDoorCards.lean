/-
  DERIVED. GIVEN WITH THE SEED: THE CARDS: each row of YtldjgpnbkbmgoaaGreatDoorRows.lean that lists a variable, with what it lists TIED to the program's text (the seventh form; the later family's looks); each row that meets fmt, with fmt's text TOLD by the authors' own Lean function (tested against real Go, not proved from fmt's source: count such statements apart). THE CARD IS WHAT COUNTS. Prove the row's statement (the work); the ties are given (YtldjgpnbkbmgoaaGreatDoorTie.lean); close each card by the builder's one call (the guide's Derived/Test/ToyasCard.lean, 'card_holds'). Laid BY PROGRAM, IN A SANDBOX (cutbox-door.mjs). By AI agents, Wed Nov 11 2026. No macro, syntax, notation, axiom, sorry.
-/
import Derived.Test.YtldjgpnbkbmgoaaGreatDoorRows
import GoSem.ClaimSeven
namespace Go.Proofs.YtldjgpnbkbmgoaaGreatDoor
namespace Rows

/-- THE TIED CARD OF 'paraventlaw29.HouseFaults'. -/
def houseFaultsCard : Claim7 := { stood := { row := houseFaultsRow, standIns := [], harness := (true, "63b85cd52b06ea686a760ad34653332dc8ba6bc52a414193a5abfe808bb9a49c"), looks := true }, kinds := [], alts := [], laidByText := true, laidKinds := [.data, .pinned], laidTests := true, laidLooks := .later }
def HouseFaultsCardSaid : Prop := Claim7.holds Tryz.pinned (.plain (OpenSpec.ofChange houseFaultsSpec)) houseFaultsCard

/-- THE TIED CARD OF 'paraventlaw29.HousePrints'. -/
def housePrintsCard : Claim7 := { stood := { row := housePrintsRow, standIns := [], harness := (true, "63b85cd52b06ea686a760ad34653332dc8ba6bc52a414193a5abfe808bb9a49c"), looks := true }, kinds := [], alts := [], laidByText := true, laidKinds := [.data, .pinned], laidTests := true, laidLooks := .later }
def HousePrintsCardSaid : Prop := Claim7.holds Tryz.pinned (.plain (OpenSpec.ofChange housePrintsSpec)) housePrintsCard

/-- THE TIED CARD OF 'paraventlaw29.HouseBack'. -/
def houseBackCard : Claim7 := { stood := { row := houseBackRow, standIns := [], harness := (true, "63b85cd52b06ea686a760ad34653332dc8ba6bc52a414193a5abfe808bb9a49c"), looks := true }, kinds := [], alts := [], laidByText := true, laidKinds := [.data, .pinned], laidTests := true, laidLooks := .later }
def HouseBackCardSaid : Prop := Claim7.holds Tryz.pinned (.plain (OpenSpec.ofChange houseBackSpec)) houseBackCard

/-- THE TIED CARD OF 'paraventlaw29.HouseReads'. -/
def houseReadsCard : Claim7 := { stood := { row := houseReadsRow, standIns := [], harness := (true, "63b85cd52b06ea686a760ad34653332dc8ba6bc52a414193a5abfe808bb9a49c"), looks := true }, kinds := [], alts := [], laidByText := true, laidKinds := [.data, .pinned], laidTests := true, laidLooks := .later }
def HouseReadsCardSaid : Prop := Claim7.holds Tryz.pinned (.plain (OpenSpec.ofChange houseReadsSpec)) houseReadsCard

/-- THE SECOND FORM's CARD OF 'paraventlaw29.HouseFaults'. -/
def houseFaultsUptoCard : Claim7 := { stood := { row := houseFaultsUptoRow, standIns := [], harness := (true, "63b85cd52b06ea686a760ad34653332dc8ba6bc52a414193a5abfe808bb9a49c"), looks := true }, kinds := [], alts := [], laidByText := true, laidKinds := [.data, .pinned], laidTests := true, laidLooks := .later }
def HouseFaultsUptoCardSaid : Prop := Claim7.holds Tryz.pinned (.plain (OpenSpec.upto houseFaultsSpec)) houseFaultsUptoCard

/-- THE SECOND FORM's CARD OF 'paraventlaw29.HousePrints'. -/
def housePrintsUptoCard : Claim7 := { stood := { row := housePrintsUptoRow, standIns := [], harness := (true, "63b85cd52b06ea686a760ad34653332dc8ba6bc52a414193a5abfe808bb9a49c"), looks := true }, kinds := [], alts := [], laidByText := true, laidKinds := [.data, .pinned], laidTests := true, laidLooks := .later }
def HousePrintsUptoCardSaid : Prop := Claim7.holds Tryz.pinned (.plain (OpenSpec.upto housePrintsSpec)) housePrintsUptoCard

/-- THE SECOND FORM's CARD OF 'paraventlaw29.HouseBack'. -/
def houseBackUptoCard : Claim7 := { stood := { row := houseBackUptoRow, standIns := [], harness := (true, "63b85cd52b06ea686a760ad34653332dc8ba6bc52a414193a5abfe808bb9a49c"), looks := true }, kinds := [], alts := [], laidByText := true, laidKinds := [.data, .pinned], laidTests := true, laidLooks := .later }
def HouseBackUptoCardSaid : Prop := Claim7.holds Tryz.pinned (.plain (OpenSpec.upto houseBackSpec)) houseBackUptoCard

/-- THE SECOND FORM's CARD OF 'paraventlaw29.HouseReads'. -/
def houseReadsUptoCard : Claim7 := { stood := { row := houseReadsUptoRow, standIns := [], harness := (true, "63b85cd52b06ea686a760ad34653332dc8ba6bc52a414193a5abfe808bb9a49c"), looks := true }, kinds := [], alts := [], laidByText := true, laidKinds := [.data, .pinned], laidTests := true, laidLooks := .later }
def HouseReadsUptoCardSaid : Prop := Claim7.holds Tryz.pinned (.plain (OpenSpec.upto houseReadsSpec)) houseReadsUptoCard
end Rows
end Go.Proofs.YtldjgpnbkbmgoaaGreatDoor
