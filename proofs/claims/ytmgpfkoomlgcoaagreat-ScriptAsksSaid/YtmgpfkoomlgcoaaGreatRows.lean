/-
  No cell of these rows narrows 'for every input' (looked for: loops, veiled, ifaces, maps, wideKeys, modest, calm, conditions, laid).
  DERIVED. THE GIVEN ROWS OF THIS SEAT. 5 by the template 'for every input the law returns true; each argument reads behind the call as it read before'; 0 by the template 'total and deterministic' (their statements: YtmgpfkoomlgcoaaGreatTotals.lean).
  GIVEN WITH THE SEED: the statements are not yours to turn. If you find one false, say at which input.
  Laid BY PROGRAM, IN A SANDBOX (cutbox-rows.mjs): the forced cells as the released guide's own fill.sh prints them over the translation b36e45ec9e61153d… (all of the seat's roots in one cut). By AI agents, Wed Nov 11 2026. No macro, syntax, notation, axiom, sorry.
-/
import Derived.Test.YtmgpfkoomlgcoaaGreatChecked
import GoSem.Claim
import GoSem.ClaimJoined
import GoSem.ClaimMapViews
import Derived.JoinedTies
import Derived.KernelRfl
namespace Go.Proofs.YtmgpfkoomlgcoaaGreat
/- THE CELL 'sum', in the pinned program and in every row, IS THE sha256 OF THE DUMP (.gsa) THAT YtmgpfkoomlgcoaaGreatProg.lean LOADS. Nothing in Lean hashes anything: it is a label: what it is worth is what the hold of that sum in a sandbox is worth. -/
noncomputable def Tryz.pinned : Pinned := { name := "ytmgpfkoomlgcoaagreat", sum := "b36e45ec9e61153d11029d7a3cbdc3cb57499899843606bcdccb2d9f8f350d37", checked := Tryz.checked }
namespace Rows
def none {H : Type} : Left H := { results := [], args := [] }

/-- 'paraventlaw28.SnapshotSums': WHATEVER THE INPUT: true; the input reads as it did. -/
def snapshotSumsSpec : ChangeSpec := { name := "snapshotSums", fn := fun _ => fun
  | [d1, d2, d3] => { results := [.lit (.bool true)], args := [d1, d2, d3] }
  | _ => none }
def snapshotSumsRow : OpenClaim := { program := "ytmgpfkoomlgcoaagreat", sum := "b36e45ec9e61153d11029d7a3cbdc3cb57499899843606bcdccb2d9f8f350d37", func := "paravent/paraventlaw28.SnapshotSums", spec := "snapshotSums", inPlace := ["internal/reflectlite.ValueOf", "internal/reflectlite.Swapper", "(internal/reflectlite.Value).Len"], unfollowed := true, recurses := true, plainKeys := false, apart := false }
def SnapshotSumsSaid : Prop := snapshotSumsRow.holds Tryz.pinned (OpenSpec.ofChange snapshotSumsSpec)

/-- ITS FALSE NEIGHBOUR: 'it returns false'. Refute it at one input. -/
def snapshotSumsWrong : ChangeSpec := { name := "snapshotSums", fn := fun _ => fun
  | [d1, d2, d3] => { results := [.lit (.bool false)], args := [d1, d2, d3] }
  | _ => none }
def SnapshotSumsWrongFalsely : Prop := snapshotSumsRow.holds Tryz.pinned (OpenSpec.ofChange snapshotSumsWrong)

/-- 'paraventlaw22.TenantNil': WHATEVER THE INPUT: true; the input reads as it did. -/
def tenantNilSpec : ChangeSpec := { name := "tenantNil", fn := fun _ => fun
  | [d] => { results := [.lit (.bool true)], args := [d] }
  | _ => none }
def tenantNilRow : OpenClaim := { program := "ytmgpfkoomlgcoaagreat", sum := "b36e45ec9e61153d11029d7a3cbdc3cb57499899843606bcdccb2d9f8f350d37", func := "paravent/paraventlaw22.TenantNil", spec := "tenantNil", inPlace := ["internal/reflectlite.ValueOf", "internal/reflectlite.Swapper", "(internal/reflectlite.Value).Len"], unfollowed := true, recurses := true, plainKeys := false, apart := false }
def TenantNilSaid : Prop := tenantNilRow.holds Tryz.pinned (OpenSpec.ofChange tenantNilSpec)

/-- ITS FALSE NEIGHBOUR: 'it returns false'. Refute it at one input. -/
def tenantNilWrong : ChangeSpec := { name := "tenantNil", fn := fun _ => fun
  | [d] => { results := [.lit (.bool false)], args := [d] }
  | _ => none }
def TenantNilWrongFalsely : Prop := tenantNilRow.holds Tryz.pinned (OpenSpec.ofChange tenantNilWrong)

/-- 'paraventlaw23.ViewSames': WHATEVER THE INPUT: true; the input reads as it did. -/
def viewSamesSpec : ChangeSpec := { name := "viewSames", fn := fun _ => fun
  | [d1, d2] => { results := [.lit (.bool true)], args := [d1, d2] }
  | _ => none }
def viewSamesRow : OpenClaim := { program := "ytmgpfkoomlgcoaagreat", sum := "b36e45ec9e61153d11029d7a3cbdc3cb57499899843606bcdccb2d9f8f350d37", func := "paravent/paraventlaw23.ViewSames", spec := "viewSames", inPlace := ["internal/reflectlite.ValueOf", "internal/reflectlite.Swapper", "(internal/reflectlite.Value).Len"], unfollowed := true, recurses := true, plainKeys := false, apart := false }
def ViewSamesSaid : Prop := viewSamesRow.holds Tryz.pinned (OpenSpec.ofChange viewSamesSpec)

/-- ITS FALSE NEIGHBOUR: 'it returns false'. Refute it at one input. -/
def viewSamesWrong : ChangeSpec := { name := "viewSames", fn := fun _ => fun
  | [d1, d2] => { results := [.lit (.bool false)], args := [d1, d2] }
  | _ => none }
def ViewSamesWrongFalsely : Prop := viewSamesRow.holds Tryz.pinned (OpenSpec.ofChange viewSamesWrong)

/-- 'paraventlaw25.ScriptAsks': WHATEVER THE INPUT: true; the input reads as it did. -/
def scriptAsksSpec : ChangeSpec := { name := "scriptAsks", fn := fun _ => fun
  | [d1, d2] => { results := [.lit (.bool true)], args := [d1, d2] }
  | _ => none }
def scriptAsksRow : OpenClaim := { program := "ytmgpfkoomlgcoaagreat", sum := "b36e45ec9e61153d11029d7a3cbdc3cb57499899843606bcdccb2d9f8f350d37", func := "paravent/paraventlaw25.ScriptAsks", spec := "scriptAsks", inPlace := ["internal/reflectlite.ValueOf", "internal/reflectlite.Swapper", "(internal/reflectlite.Value).Len"], unfollowed := true, recurses := true, plainKeys := false, apart := false }
def ScriptAsksSaid : Prop := scriptAsksRow.holds Tryz.pinned (OpenSpec.ofChange scriptAsksSpec)

/-- ITS FALSE NEIGHBOUR: 'it returns false'. Refute it at one input. -/
def scriptAsksWrong : ChangeSpec := { name := "scriptAsks", fn := fun _ => fun
  | [d1, d2] => { results := [.lit (.bool false)], args := [d1, d2] }
  | _ => none }
def ScriptAsksWrongFalsely : Prop := scriptAsksRow.holds Tryz.pinned (OpenSpec.ofChange scriptAsksWrong)

/-- 'paraventlaw24.ServerNil': WHATEVER THE INPUT: true; the input reads as it did. -/
def serverNilSpec : ChangeSpec := { name := "serverNil", fn := fun _ => fun
  | [d1, d2] => { results := [.lit (.bool true)], args := [d1, d2] }
  | _ => none }
def serverNilRow : OpenClaim := { program := "ytmgpfkoomlgcoaagreat", sum := "b36e45ec9e61153d11029d7a3cbdc3cb57499899843606bcdccb2d9f8f350d37", func := "paravent/paraventlaw24.ServerNil", spec := "serverNil", inPlace := ["internal/reflectlite.ValueOf", "internal/reflectlite.Swapper", "(internal/reflectlite.Value).Len"], unfollowed := true, recurses := true, plainKeys := false, apart := false }
def ServerNilSaid : Prop := serverNilRow.holds Tryz.pinned (OpenSpec.ofChange serverNilSpec)

/-- ITS FALSE NEIGHBOUR: 'it returns false'. Refute it at one input. -/
def serverNilWrong : ChangeSpec := { name := "serverNil", fn := fun _ => fun
  | [d1, d2] => { results := [.lit (.bool false)], args := [d1, d2] }
  | _ => none }
def ServerNilWrongFalsely : Prop := serverNilRow.holds Tryz.pinned (OpenSpec.ofChange serverNilWrong)

/- THE SECOND FORM. 'bulk': how many values and letters a reading holds, each counted each time it is reached (what is shared counts as often as it is met; a slice's spare places count too). A statement '..UptoSaid' is the law's where the arguments, and the package variables that the reading takes, are together of bulk at most 1048576: NARROWER than '..Said'. Prove '..Said' where nothing that the law and all that it calls make is longer than what came in: it says more and counts as full. Else prove '..UptoSaid'. A law counts once. -/
mutual
def uptoBulk {H : Type} : DataW H → Nat
  | .lit (.string bytes) => bytes.length + 1
  | .lit _ => 1
  | .nil => 1
  | .ptr d => uptoBulk d + 1
  | .slice elems spare => uptoBulkAll elems + uptoBulkAll spare + 1
  | .agg parts => uptoBulkAll parts + 1
  | .iface _ d => uptoBulk d + 1
  | .map entries => uptoBulkEntries entries + 1
  | .held _ => 1
def uptoBulkAll {H : Type} : List (DataW H) → Nat
  | [] => 0
  | d :: r => uptoBulk d + uptoBulkAll r
def uptoBulkEntries {H : Type} : List (Lit × DataW H) → Nat
  | [] => 0
  | x :: r => uptoBulkEntry x + uptoBulkEntries r
def uptoBulkEntry {H : Type} : Lit × DataW H → Nat
  | (.string bytes, d) => bytes.length + uptoBulk d + 1
  | (_, d) => uptoBulk d + 1
 end
def uptoSmall : (H : Type) → List (DataW H) → Bool := fun _ ds => decide (uptoBulkAll ds ≤ 1048576)
def OpenSpec.upto (s : _root_.Go.ChangeSpec) : _root_.Go.OpenSpec := { _root_.Go.OpenSpec.ofChange s with cond := some uptoSmall }

/-- 'paraventlaw28.SnapshotSums', WHERE WHAT IT READS IS OF BULK AT MOST 1048576: true; the input reads as it did. -/
def snapshotSumsUptoRow : OpenClaim := { program := "ytmgpfkoomlgcoaagreat", sum := "b36e45ec9e61153d11029d7a3cbdc3cb57499899843606bcdccb2d9f8f350d37", func := "paravent/paraventlaw28.SnapshotSums", spec := "snapshotSums", inPlace := ["internal/reflectlite.ValueOf", "internal/reflectlite.Swapper", "(internal/reflectlite.Value).Len"], unfollowed := true, recurses := true, plainKeys := false, apart := false, narrowed := true }
def SnapshotSumsUptoSaid : Prop := snapshotSumsUptoRow.holds Tryz.pinned (OpenSpec.upto snapshotSumsSpec)

/-- 'paraventlaw22.TenantNil', WHERE WHAT IT READS IS OF BULK AT MOST 1048576: true; the input reads as it did. -/
def tenantNilUptoRow : OpenClaim := { program := "ytmgpfkoomlgcoaagreat", sum := "b36e45ec9e61153d11029d7a3cbdc3cb57499899843606bcdccb2d9f8f350d37", func := "paravent/paraventlaw22.TenantNil", spec := "tenantNil", inPlace := ["internal/reflectlite.ValueOf", "internal/reflectlite.Swapper", "(internal/reflectlite.Value).Len"], unfollowed := true, recurses := true, plainKeys := false, apart := false, narrowed := true }
def TenantNilUptoSaid : Prop := tenantNilUptoRow.holds Tryz.pinned (OpenSpec.upto tenantNilSpec)

/-- 'paraventlaw23.ViewSames', WHERE WHAT IT READS IS OF BULK AT MOST 1048576: true; the input reads as it did. -/
def viewSamesUptoRow : OpenClaim := { program := "ytmgpfkoomlgcoaagreat", sum := "b36e45ec9e61153d11029d7a3cbdc3cb57499899843606bcdccb2d9f8f350d37", func := "paravent/paraventlaw23.ViewSames", spec := "viewSames", inPlace := ["internal/reflectlite.ValueOf", "internal/reflectlite.Swapper", "(internal/reflectlite.Value).Len"], unfollowed := true, recurses := true, plainKeys := false, apart := false, narrowed := true }
def ViewSamesUptoSaid : Prop := viewSamesUptoRow.holds Tryz.pinned (OpenSpec.upto viewSamesSpec)

/-- 'paraventlaw25.ScriptAsks', WHERE WHAT IT READS IS OF BULK AT MOST 1048576: true; the input reads as it did. -/
def scriptAsksUptoRow : OpenClaim := { program := "ytmgpfkoomlgcoaagreat", sum := "b36e45ec9e61153d11029d7a3cbdc3cb57499899843606bcdccb2d9f8f350d37", func := "paravent/paraventlaw25.ScriptAsks", spec := "scriptAsks", inPlace := ["internal/reflectlite.ValueOf", "internal/reflectlite.Swapper", "(internal/reflectlite.Value).Len"], unfollowed := true, recurses := true, plainKeys := false, apart := false, narrowed := true }
def ScriptAsksUptoSaid : Prop := scriptAsksUptoRow.holds Tryz.pinned (OpenSpec.upto scriptAsksSpec)

/-- 'paraventlaw24.ServerNil', WHERE WHAT IT READS IS OF BULK AT MOST 1048576: true; the input reads as it did. -/
def serverNilUptoRow : OpenClaim := { program := "ytmgpfkoomlgcoaagreat", sum := "b36e45ec9e61153d11029d7a3cbdc3cb57499899843606bcdccb2d9f8f350d37", func := "paravent/paraventlaw24.ServerNil", spec := "serverNil", inPlace := ["internal/reflectlite.ValueOf", "internal/reflectlite.Swapper", "(internal/reflectlite.Value).Len"], unfollowed := true, recurses := true, plainKeys := false, apart := false, narrowed := true }
def ServerNilUptoSaid : Prop := serverNilUptoRow.holds Tryz.pinned (OpenSpec.upto serverNilSpec)

end Rows
end Go.Proofs.YtmgpfkoomlgcoaaGreat
