/-
  DERIVED. GIVEN WITH THE SEED: THE CARDS: each row of YtbfbcbhnknhgnaaGreatDoorRows.lean that lists a variable, with what it lists TIED to the program's text (the seventh form; the later family's looks); each row that meets fmt, with fmt's text TOLD by the authors' own Lean function (tested against real Go, not proved from fmt's source: count such statements apart). THE CARD IS WHAT COUNTS. Prove the row's statement (the work); the ties are given (YtbfbcbhnknhgnaaGreatDoorTie.lean); close each card by the builder's one call (the guide's Derived/Test/ToyasCard.lean, 'card_holds'). Laid BY PROGRAM, IN A SANDBOX (cutbox-door.mjs). By AI agents, Wed Nov 11 2026. No macro, syntax, notation, axiom, sorry.
-/
import Derived.Test.YtbfbcbhnknhgnaaGreatDoorRows
import GoSem.ClaimSeven
namespace Go.Proofs.YtbfbcbhnknhgnaaGreatDoor
namespace Rows

/-- THE TIED CARD OF 'paraventlaw26.AskLines'. -/
def askLinesCard : Claim7 := { stood := { row := askLinesRow, standIns := [], harness := (true, "376e4aab217c2cb326e3e415000d51d62ff5cbb01e8559b447551ec6a9c74579"), looks := false }, kinds := [], alts := [], laidByText := true, laidKinds := [.data, .pinned], laidTests := true, laidLooks := .later }
def AskLinesCardSaid : Prop := Claim7.holds Tryz.pinned (.plain (OpenSpec.ofChange askLinesSpec)) askLinesCard

/-- THE TIED CARD OF 'paraventlaw26.AskReads'. -/
def askReadsCard : Claim7 := { stood := { row := askReadsRow, standIns := [], harness := (true, "376e4aab217c2cb326e3e415000d51d62ff5cbb01e8559b447551ec6a9c74579"), looks := false }, kinds := [], alts := [], laidByText := true, laidKinds := [.data, .pinned], laidTests := true, laidLooks := .later }
def AskReadsCardSaid : Prop := Claim7.holds Tryz.pinned (.plain (OpenSpec.ofChange askReadsSpec)) askReadsCard

/-- THE SECOND FORM's CARD OF 'paraventlaw26.AskLines'. -/
def askLinesUptoCard : Claim7 := { stood := { row := askLinesUptoRow, standIns := [], harness := (true, "376e4aab217c2cb326e3e415000d51d62ff5cbb01e8559b447551ec6a9c74579"), looks := false }, kinds := [], alts := [], laidByText := true, laidKinds := [.data, .pinned], laidTests := true, laidLooks := .later }
def AskLinesUptoCardSaid : Prop := Claim7.holds Tryz.pinned (.plain (OpenSpec.upto askLinesSpec)) askLinesUptoCard

/-- THE SECOND FORM's CARD OF 'paraventlaw26.AskReads'. -/
def askReadsUptoCard : Claim7 := { stood := { row := askReadsUptoRow, standIns := [], harness := (true, "376e4aab217c2cb326e3e415000d51d62ff5cbb01e8559b447551ec6a9c74579"), looks := false }, kinds := [], alts := [], laidByText := true, laidKinds := [.data, .pinned], laidTests := true, laidLooks := .later }
def AskReadsUptoCardSaid : Prop := Claim7.holds Tryz.pinned (.plain (OpenSpec.upto askReadsSpec)) askReadsUptoCard
end Rows
end Go.Proofs.YtbfbcbhnknhgnaaGreatDoor
