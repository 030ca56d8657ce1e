/-
  DERIVED. GIVEN WITH THE SEED: THE CARDS: each row of YtbfbcbhnknhgnaaDoorRows.lean that lists a variable, with what it lists TIED to the program's text (the seventh form; the later family's looks); each row that meets fmt, with fmt's text TOLD by the authors' own Lean function (tested against real Go, not proved from fmt's source: count such statements apart). THE CARD IS WHAT COUNTS. Prove the row's statement (the work); the ties are given (YtbfbcbhnknhgnaaDoorTie.lean); close each card by the builder's one call (the guide's Derived/Test/ToyasCard.lean, 'card_holds'). Laid BY PROGRAM, IN A SANDBOX (cutbox-door.mjs). By AI agents, Wed Nov 11 2026. No macro, syntax, notation, axiom, sorry.
-/
import Derived.Test.YtbfbcbhnknhgnaaDoorRows
import GoSem.ClaimSeven
namespace Go.Proofs.YtbfbcbhnknhgnaaDoor
namespace Rows

/-- THE TIED CARD OF 'paraventlaw26.AskBack'. -/
def askBackCard : Claim7 := { stood := { row := askBackRow, standIns := [], harness := (true, "91894fa386e07c44a583a916958d909acf0ecfbb96bfae950aec576e0f87c5a8"), looks := false }, kinds := [], alts := [], laidByText := true, laidKinds := [.data, .pinned], laidTests := true, laidLooks := .later }
def AskBackCardSaid : Prop := Claim7.holds Tryd.pinned (.plain (OpenSpec.ofChange askBackSpec)) askBackCard

/-- THE TIED CARD OF 'paraventlaw26.AskWords'. -/
def askWordsCard : Claim7 := { stood := { row := askWordsRow, standIns := [], harness := (true, "91894fa386e07c44a583a916958d909acf0ecfbb96bfae950aec576e0f87c5a8"), looks := false }, kinds := [], alts := [], laidByText := true, laidKinds := [.data, .pinned], laidTests := true, laidLooks := .later }
def AskWordsCardSaid : Prop := Claim7.holds Tryd.pinned (.plain (OpenSpec.ofChange askWordsSpec)) askWordsCard

/-- THE TIED CARD OF 'paraventlaw26.AskApart'. -/
def askApartCard : Claim7 := { stood := { row := askApartRow, standIns := [], harness := (true, "91894fa386e07c44a583a916958d909acf0ecfbb96bfae950aec576e0f87c5a8"), looks := false }, kinds := [], alts := [], laidByText := true, laidKinds := [.data, .pinned], laidTests := true, laidLooks := .later }
def AskApartCardSaid : Prop := Claim7.holds Tryd.pinned (.plain (OpenSpec.ofChange askApartSpec)) askApartCard

/-- THE TIED CARD OF 'paraventlaw26.AskAnswers'. -/
def askAnswersCard : Claim7 := { stood := { row := askAnswersRow, standIns := [], harness := (true, "91894fa386e07c44a583a916958d909acf0ecfbb96bfae950aec576e0f87c5a8"), looks := false }, kinds := [], alts := [], laidByText := true, laidKinds := [.data, .pinned], laidTests := true, laidLooks := .later }
def AskAnswersCardSaid : Prop := Claim7.holds Tryd.pinned (.plain (OpenSpec.ofChange askAnswersSpec)) askAnswersCard

/-- THE TIED CARD OF 'paraventlaw26.AskTold'. -/
def askToldCard : Claim7 := { stood := { row := askToldRow, standIns := [], harness := (true, "91894fa386e07c44a583a916958d909acf0ecfbb96bfae950aec576e0f87c5a8"), looks := false }, kinds := [], alts := [], laidByText := true, laidKinds := [.data, .pinned], laidTests := true, laidLooks := .later }
def AskToldCardSaid : Prop := Claim7.holds Tryd.pinned (.plain (OpenSpec.ofChange askToldSpec)) askToldCard

/-- THE SECOND FORM's CARD OF 'paraventlaw26.AskBack'. -/
def askBackUptoCard : Claim7 := { stood := { row := askBackUptoRow, standIns := [], harness := (true, "91894fa386e07c44a583a916958d909acf0ecfbb96bfae950aec576e0f87c5a8"), looks := false }, kinds := [], alts := [], laidByText := true, laidKinds := [.data, .pinned], laidTests := true, laidLooks := .later }
def AskBackUptoCardSaid : Prop := Claim7.holds Tryd.pinned (.plain (OpenSpec.upto askBackSpec)) askBackUptoCard

/-- THE SECOND FORM's CARD OF 'paraventlaw26.AskWords'. -/
def askWordsUptoCard : Claim7 := { stood := { row := askWordsUptoRow, standIns := [], harness := (true, "91894fa386e07c44a583a916958d909acf0ecfbb96bfae950aec576e0f87c5a8"), looks := false }, kinds := [], alts := [], laidByText := true, laidKinds := [.data, .pinned], laidTests := true, laidLooks := .later }
def AskWordsUptoCardSaid : Prop := Claim7.holds Tryd.pinned (.plain (OpenSpec.upto askWordsSpec)) askWordsUptoCard

/-- THE SECOND FORM's CARD OF 'paraventlaw26.AskApart'. -/
def askApartUptoCard : Claim7 := { stood := { row := askApartUptoRow, standIns := [], harness := (true, "91894fa386e07c44a583a916958d909acf0ecfbb96bfae950aec576e0f87c5a8"), looks := false }, kinds := [], alts := [], laidByText := true, laidKinds := [.data, .pinned], laidTests := true, laidLooks := .later }
def AskApartUptoCardSaid : Prop := Claim7.holds Tryd.pinned (.plain (OpenSpec.upto askApartSpec)) askApartUptoCard

/-- THE SECOND FORM's CARD OF 'paraventlaw26.AskAnswers'. -/
def askAnswersUptoCard : Claim7 := { stood := { row := askAnswersUptoRow, standIns := [], harness := (true, "91894fa386e07c44a583a916958d909acf0ecfbb96bfae950aec576e0f87c5a8"), looks := false }, kinds := [], alts := [], laidByText := true, laidKinds := [.data, .pinned], laidTests := true, laidLooks := .later }
def AskAnswersUptoCardSaid : Prop := Claim7.holds Tryd.pinned (.plain (OpenSpec.upto askAnswersSpec)) askAnswersUptoCard

/-- THE SECOND FORM's CARD OF 'paraventlaw26.AskTold'. -/
def askToldUptoCard : Claim7 := { stood := { row := askToldUptoRow, standIns := [], harness := (true, "91894fa386e07c44a583a916958d909acf0ecfbb96bfae950aec576e0f87c5a8"), looks := false }, kinds := [], alts := [], laidByText := true, laidKinds := [.data, .pinned], laidTests := true, laidLooks := .later }
def AskToldUptoCardSaid : Prop := Claim7.holds Tryd.pinned (.plain (OpenSpec.upto askToldSpec)) askToldUptoCard
end Rows
end Go.Proofs.YtbfbcbhnknhgnaaDoor
