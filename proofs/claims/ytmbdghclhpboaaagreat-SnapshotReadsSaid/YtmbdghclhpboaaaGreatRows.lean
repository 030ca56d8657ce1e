/-
  No cell of these rows narrows 'for every input' (looked for: loops, veiled, ifaces, maps, wideKeys, modest, calm, conditions, laid).
  DERIVED. THE GIVEN ROWS OF THIS SEAT. 6 by the template 'for every input the law returns true; each argument reads behind the call as it read before'; 0 by the template 'total and deterministic' (their statements: YtmbdghclhpboaaaGreatTotals.lean).
  GIVEN WITH THE SEED: the statements are not yours to turn. If you find one false, say at which input.
  Laid BY PROGRAM, IN A SANDBOX (cutbox-rows.mjs): the forced cells as the released guide's own fill.sh prints them over the translation d94a34feda7b7183… (all of the seat's roots in one cut). By AI agents, Wed Nov 11 2026. No macro, syntax, notation, axiom, sorry.
-/
import Derived.Test.YtmbdghclhpboaaaGreatChecked
import GoSem.Claim
import GoSem.ClaimJoined
import GoSem.ClaimMapViews
import Derived.JoinedTies
import Derived.KernelRfl
namespace Go.Proofs.YtmbdghclhpboaaaGreat
/- THE CELL 'sum', in the pinned program and in every row, IS THE sha256 OF THE DUMP (.gsa) THAT YtmbdghclhpboaaaGreatProg.lean LOADS. Nothing in Lean hashes anything: it is a label: what it is worth is what the hold of that sum in a sandbox is worth. -/
noncomputable def Tryz.pinned : Pinned := { name := "ytmbdghclhpboaaagreat", sum := "d94a34feda7b7183b4de48f345823cc2ca12aab14e27f622324e449cc3ff70f1", checked := Tryz.checked }
namespace Rows
def none {H : Type} : Left H := { results := [], args := [] }

/-- 'paraventlaw28.SnapshotWrites': WHATEVER THE INPUT: true; the input reads as it did. -/
def snapshotWritesSpec : ChangeSpec := { name := "snapshotWrites", fn := fun _ => fun
  | [d] => { results := [.lit (.bool true)], args := [d] }
  | _ => none }
def snapshotWritesRow : OpenClaim := { program := "ytmbdghclhpboaaagreat", sum := "d94a34feda7b7183b4de48f345823cc2ca12aab14e27f622324e449cc3ff70f1", func := "paravent/paraventlaw28.SnapshotWrites", spec := "snapshotWrites", inPlace := ["internal/reflectlite.ValueOf", "internal/reflectlite.Swapper", "(internal/reflectlite.Value).Len"], unfollowed := true, recurses := true, plainKeys := false, apart := false }
def SnapshotWritesSaid : Prop := snapshotWritesRow.holds Tryz.pinned (OpenSpec.ofChange snapshotWritesSpec)

/-- ITS FALSE NEIGHBOUR: 'it returns false'. Refute it at one input. -/
def snapshotWritesWrong : ChangeSpec := { name := "snapshotWrites", fn := fun _ => fun
  | [d] => { results := [.lit (.bool false)], args := [d] }
  | _ => none }
def SnapshotWritesWrongFalsely : Prop := snapshotWritesRow.holds Tryz.pinned (OpenSpec.ofChange snapshotWritesWrong)

/-- 'paraventlaw28.SnapshotBack': WHATEVER THE INPUT: true; the input reads as it did. -/
def snapshotBackSpec : ChangeSpec := { name := "snapshotBack", fn := fun _ => fun
  | [d] => { results := [.lit (.bool true)], args := [d] }
  | _ => none }
def snapshotBackRow : OpenClaim := { program := "ytmbdghclhpboaaagreat", sum := "d94a34feda7b7183b4de48f345823cc2ca12aab14e27f622324e449cc3ff70f1", func := "paravent/paraventlaw28.SnapshotBack", spec := "snapshotBack", inPlace := ["internal/reflectlite.ValueOf", "internal/reflectlite.Swapper", "(internal/reflectlite.Value).Len"], unfollowed := true, recurses := true, plainKeys := false, apart := false }
def SnapshotBackSaid : Prop := snapshotBackRow.holds Tryz.pinned (OpenSpec.ofChange snapshotBackSpec)

/-- ITS FALSE NEIGHBOUR: 'it returns false'. Refute it at one input. -/
def snapshotBackWrong : ChangeSpec := { name := "snapshotBack", fn := fun _ => fun
  | [d] => { results := [.lit (.bool false)], args := [d] }
  | _ => none }
def SnapshotBackWrongFalsely : Prop := snapshotBackRow.holds Tryz.pinned (OpenSpec.ofChange snapshotBackWrong)

/-- 'paraventlaw28.SnapshotReads': WHATEVER THE INPUT: true; the input reads as it did. -/
def snapshotReadsSpec : ChangeSpec := { name := "snapshotReads", fn := fun _ => fun
  | [d] => { results := [.lit (.bool true)], args := [d] }
  | _ => none }
def snapshotReadsRow : OpenClaim := { program := "ytmbdghclhpboaaagreat", sum := "d94a34feda7b7183b4de48f345823cc2ca12aab14e27f622324e449cc3ff70f1", func := "paravent/paraventlaw28.SnapshotReads", spec := "snapshotReads", inPlace := ["internal/reflectlite.ValueOf", "internal/reflectlite.Swapper", "(internal/reflectlite.Value).Len"], unfollowed := true, recurses := true, plainKeys := false, apart := false }
def SnapshotReadsSaid : Prop := snapshotReadsRow.holds Tryz.pinned (OpenSpec.ofChange snapshotReadsSpec)

/-- ITS FALSE NEIGHBOUR: 'it returns false'. Refute it at one input. -/
def snapshotReadsWrong : ChangeSpec := { name := "snapshotReads", fn := fun _ => fun
  | [d] => { results := [.lit (.bool false)], args := [d] }
  | _ => none }
def SnapshotReadsWrongFalsely : Prop := snapshotReadsRow.holds Tryz.pinned (OpenSpec.ofChange snapshotReadsWrong)

/-- 'paraventlaw28.SnapshotTurned': WHATEVER THE INPUT: true; the input reads as it did. -/
def snapshotTurnedSpec : ChangeSpec := { name := "snapshotTurned", fn := fun _ => fun
  | [d1, d2, d3] => { results := [.lit (.bool true)], args := [d1, d2, d3] }
  | _ => none }
def snapshotTurnedRow : OpenClaim := { program := "ytmbdghclhpboaaagreat", sum := "d94a34feda7b7183b4de48f345823cc2ca12aab14e27f622324e449cc3ff70f1", func := "paravent/paraventlaw28.SnapshotTurned", spec := "snapshotTurned", inPlace := ["internal/reflectlite.ValueOf", "internal/reflectlite.Swapper", "(internal/reflectlite.Value).Len"], unfollowed := true, recurses := true, plainKeys := false, apart := false }
def SnapshotTurnedSaid : Prop := snapshotTurnedRow.holds Tryz.pinned (OpenSpec.ofChange snapshotTurnedSpec)

/-- ITS FALSE NEIGHBOUR: 'it returns false'. Refute it at one input. -/
def snapshotTurnedWrong : ChangeSpec := { name := "snapshotTurned", fn := fun _ => fun
  | [d1, d2, d3] => { results := [.lit (.bool false)], args := [d1, d2, d3] }
  | _ => none }
def SnapshotTurnedWrongFalsely : Prop := snapshotTurnedRow.holds Tryz.pinned (OpenSpec.ofChange snapshotTurnedWrong)

/-- 'paraventlaw22.TenantImports': WHATEVER THE INPUT: true; the input reads as it did. -/
def tenantImportsSpec : ChangeSpec := { name := "tenantImports", fn := fun _ => fun
  | [d] => { results := [.lit (.bool true)], args := [d] }
  | _ => none }
def tenantImportsRow : OpenClaim := { program := "ytmbdghclhpboaaagreat", sum := "d94a34feda7b7183b4de48f345823cc2ca12aab14e27f622324e449cc3ff70f1", func := "paravent/paraventlaw22.TenantImports", spec := "tenantImports", inPlace := ["internal/reflectlite.ValueOf", "internal/reflectlite.Swapper", "(internal/reflectlite.Value).Len"], unfollowed := true, recurses := true, plainKeys := false, apart := false }
def TenantImportsSaid : Prop := tenantImportsRow.holds Tryz.pinned (OpenSpec.ofChange tenantImportsSpec)

/-- ITS FALSE NEIGHBOUR: 'it returns false'. Refute it at one input. -/
def tenantImportsWrong : ChangeSpec := { name := "tenantImports", fn := fun _ => fun
  | [d] => { results := [.lit (.bool false)], args := [d] }
  | _ => none }
def TenantImportsWrongFalsely : Prop := tenantImportsRow.holds Tryz.pinned (OpenSpec.ofChange tenantImportsWrong)

/-- 'paraventlaw23.ViewSames': WHATEVER THE INPUT: true; the input reads as it did. -/
def viewSamesSpec : ChangeSpec := { name := "viewSames", fn := fun _ => fun
  | [d1, d2] => { results := [.lit (.bool true)], args := [d1, d2] }
  | _ => none }
def viewSamesRow : OpenClaim := { program := "ytmbdghclhpboaaagreat", sum := "d94a34feda7b7183b4de48f345823cc2ca12aab14e27f622324e449cc3ff70f1", func := "paravent/paraventlaw23.ViewSames", spec := "viewSames", inPlace := ["internal/reflectlite.ValueOf", "internal/reflectlite.Swapper", "(internal/reflectlite.Value).Len"], unfollowed := true, recurses := true, plainKeys := false, apart := false }
def ViewSamesSaid : Prop := viewSamesRow.holds Tryz.pinned (OpenSpec.ofChange viewSamesSpec)

/-- ITS FALSE NEIGHBOUR: 'it returns false'. Refute it at one input. -/
def viewSamesWrong : ChangeSpec := { name := "viewSames", fn := fun _ => fun
  | [d1, d2] => { results := [.lit (.bool false)], args := [d1, d2] }
  | _ => none }
def ViewSamesWrongFalsely : Prop := viewSamesRow.holds Tryz.pinned (OpenSpec.ofChange viewSamesWrong)

/- THE SECOND FORM. 'bulk': how many values and letters a reading holds, each counted each time it is reached (what is shared counts as often as it is met; a slice's spare places count too). A statement '..UptoSaid' is the law's where the arguments, and the package variables that the reading takes, are together of bulk at most 1048576: NARROWER than '..Said'. Prove '..Said' where nothing that the law and all that it calls make is longer than what came in: it says more and counts as full. Else prove '..UptoSaid'. A law counts once. -/
mutual
def uptoBulk {H : Type} : DataW H → Nat
  | .lit (.string bytes) => bytes.length + 1
  | .lit _ => 1
  | .nil => 1
  | .ptr d => uptoBulk d + 1
  | .slice elems spare => uptoBulkAll elems + uptoBulkAll spare + 1
  | .agg parts => uptoBulkAll parts + 1
  | .iface _ d => uptoBulk d + 1
  | .map entries => uptoBulkEntries entries + 1
  | .held _ => 1
def uptoBulkAll {H : Type} : List (DataW H) → Nat
  | [] => 0
  | d :: r => uptoBulk d + uptoBulkAll r
def uptoBulkEntries {H : Type} : List (Lit × DataW H) → Nat
  | [] => 0
  | x :: r => uptoBulkEntry x + uptoBulkEntries r
def uptoBulkEntry {H : Type} : Lit × DataW H → Nat
  | (.string bytes, d) => bytes.length + uptoBulk d + 1
  | (_, d) => uptoBulk d + 1
 end
def uptoSmall : (H : Type) → List (DataW H) → Bool := fun _ ds => decide (uptoBulkAll ds ≤ 1048576)
def OpenSpec.upto (s : _root_.Go.ChangeSpec) : _root_.Go.OpenSpec := { _root_.Go.OpenSpec.ofChange s with cond := some uptoSmall }

/-- 'paraventlaw28.SnapshotWrites', WHERE WHAT IT READS IS OF BULK AT MOST 1048576: true; the input reads as it did. -/
def snapshotWritesUptoRow : OpenClaim := { program := "ytmbdghclhpboaaagreat", sum := "d94a34feda7b7183b4de48f345823cc2ca12aab14e27f622324e449cc3ff70f1", func := "paravent/paraventlaw28.SnapshotWrites", spec := "snapshotWrites", inPlace := ["internal/reflectlite.ValueOf", "internal/reflectlite.Swapper", "(internal/reflectlite.Value).Len"], unfollowed := true, recurses := true, plainKeys := false, apart := false, narrowed := true }
def SnapshotWritesUptoSaid : Prop := snapshotWritesUptoRow.holds Tryz.pinned (OpenSpec.upto snapshotWritesSpec)

/-- 'paraventlaw28.SnapshotBack', WHERE WHAT IT READS IS OF BULK AT MOST 1048576: true; the input reads as it did. -/
def snapshotBackUptoRow : OpenClaim := { program := "ytmbdghclhpboaaagreat", sum := "d94a34feda7b7183b4de48f345823cc2ca12aab14e27f622324e449cc3ff70f1", func := "paravent/paraventlaw28.SnapshotBack", spec := "snapshotBack", inPlace := ["internal/reflectlite.ValueOf", "internal/reflectlite.Swapper", "(internal/reflectlite.Value).Len"], unfollowed := true, recurses := true, plainKeys := false, apart := false, narrowed := true }
def SnapshotBackUptoSaid : Prop := snapshotBackUptoRow.holds Tryz.pinned (OpenSpec.upto snapshotBackSpec)

/-- 'paraventlaw28.SnapshotReads', WHERE WHAT IT READS IS OF BULK AT MOST 1048576: true; the input reads as it did. -/
def snapshotReadsUptoRow : OpenClaim := { program := "ytmbdghclhpboaaagreat", sum := "d94a34feda7b7183b4de48f345823cc2ca12aab14e27f622324e449cc3ff70f1", func := "paravent/paraventlaw28.SnapshotReads", spec := "snapshotReads", inPlace := ["internal/reflectlite.ValueOf", "internal/reflectlite.Swapper", "(internal/reflectlite.Value).Len"], unfollowed := true, recurses := true, plainKeys := false, apart := false, narrowed := true }
def SnapshotReadsUptoSaid : Prop := snapshotReadsUptoRow.holds Tryz.pinned (OpenSpec.upto snapshotReadsSpec)

/-- 'paraventlaw28.SnapshotTurned', WHERE WHAT IT READS IS OF BULK AT MOST 1048576: true; the input reads as it did. -/
def snapshotTurnedUptoRow : OpenClaim := { program := "ytmbdghclhpboaaagreat", sum := "d94a34feda7b7183b4de48f345823cc2ca12aab14e27f622324e449cc3ff70f1", func := "paravent/paraventlaw28.SnapshotTurned", spec := "snapshotTurned", inPlace := ["internal/reflectlite.ValueOf", "internal/reflectlite.Swapper", "(internal/reflectlite.Value).Len"], unfollowed := true, recurses := true, plainKeys := false, apart := false, narrowed := true }
def SnapshotTurnedUptoSaid : Prop := snapshotTurnedUptoRow.holds Tryz.pinned (OpenSpec.upto snapshotTurnedSpec)

/-- 'paraventlaw22.TenantImports', WHERE WHAT IT READS IS OF BULK AT MOST 1048576: true; the input reads as it did. -/
def tenantImportsUptoRow : OpenClaim := { program := "ytmbdghclhpboaaagreat", sum := "d94a34feda7b7183b4de48f345823cc2ca12aab14e27f622324e449cc3ff70f1", func := "paravent/paraventlaw22.TenantImports", spec := "tenantImports", inPlace := ["internal/reflectlite.ValueOf", "internal/reflectlite.Swapper", "(internal/reflectlite.Value).Len"], unfollowed := true, recurses := true, plainKeys := false, apart := false, narrowed := true }
def TenantImportsUptoSaid : Prop := tenantImportsUptoRow.holds Tryz.pinned (OpenSpec.upto tenantImportsSpec)

/-- 'paraventlaw23.ViewSames', WHERE WHAT IT READS IS OF BULK AT MOST 1048576: true; the input reads as it did. -/
def viewSamesUptoRow : OpenClaim := { program := "ytmbdghclhpboaaagreat", sum := "d94a34feda7b7183b4de48f345823cc2ca12aab14e27f622324e449cc3ff70f1", func := "paravent/paraventlaw23.ViewSames", spec := "viewSames", inPlace := ["internal/reflectlite.ValueOf", "internal/reflectlite.Swapper", "(internal/reflectlite.Value).Len"], unfollowed := true, recurses := true, plainKeys := false, apart := false, narrowed := true }
def ViewSamesUptoSaid : Prop := viewSamesUptoRow.holds Tryz.pinned (OpenSpec.upto viewSamesSpec)

end Rows
end Go.Proofs.YtmbdghclhpboaaaGreat
