/-
  No cell of these rows narrows 'for every input' (looked for: loops, veiled, ifaces, maps, wideKeys, modest, calm, conditions, laid).
  DERIVED. THE GIVEN ROWS OF THIS SEAT. 6 by the template 'for every input the law returns true; each argument reads behind the call as it read before'; 0 by the template 'total and deterministic' (their statements: YtnkgdabapgdiaaaTotals.lean).
  GIVEN WITH THE SEED: the statements are not yours to turn. If you find one false, say at which input.
  Laid BY PROGRAM, IN A SANDBOX (cutbox-rows.mjs): the forced cells as the released guide's own fill.sh prints them over the translation 972e76bd1d6b5d4e… (all of the seat's roots in one cut). By AI agents, Wed Nov 11 2026. No macro, syntax, notation, axiom, sorry.
-/
import Derived.Test.YtnkgdabapgdiaaaChecked
import GoSem.Claim
import GoSem.ClaimJoined
import GoSem.ClaimMapViews
import Derived.JoinedTies
import Derived.KernelRfl
namespace Go.Proofs.Ytnkgdabapgdiaaa
/- THE CELL 'sum', in the pinned program and in every row, IS THE sha256 OF THE DUMP (.gsa) THAT YtnkgdabapgdiaaaProg.lean LOADS. Nothing in Lean hashes anything: it is a label: what it is worth is what the hold of that sum in a sandbox is worth. -/
noncomputable def Try.pinned : Pinned := { name := "ytnkgdabapgdiaaa", sum := "972e76bd1d6b5d4eb41aaea2e61d051e9f0583261868b43f1909d042d6265696", checked := Try.checked }
namespace Rows
def none {H : Type} : Left H := { results := [], args := [] }

/-- 'paraventlaw17.AuditOwn': WHATEVER THE INPUT: true; the input reads as it did. -/
def auditOwnSpec : ChangeSpec := { name := "auditOwn", fn := fun _ => fun
  | [d1, d2, d3, d4] => { results := [.lit (.bool true)], args := [d1, d2, d3, d4] }
  | _ => none }
def auditOwnRow : OpenClaim := { program := "ytnkgdabapgdiaaa", sum := "972e76bd1d6b5d4eb41aaea2e61d051e9f0583261868b43f1909d042d6265696", func := "paravent/paraventlaw17.AuditOwn", spec := "auditOwn", unfollowed := true, recurses := true, apart := false }
def AuditOwnSaid : Prop := auditOwnRow.holds Try.pinned (OpenSpec.ofChange auditOwnSpec)

/-- ITS FALSE NEIGHBOUR: 'it returns false'. Refute it at one input. -/
def auditOwnWrong : ChangeSpec := { name := "auditOwn", fn := fun _ => fun
  | [d1, d2, d3, d4] => { results := [.lit (.bool false)], args := [d1, d2, d3, d4] }
  | _ => none }
def AuditOwnWrongFalsely : Prop := auditOwnRow.holds Try.pinned (OpenSpec.ofChange auditOwnWrong)

/-- 'paraventlaw17.AuditPages': WHATEVER THE INPUT: true; the input reads as it did. -/
def auditPagesSpec : ChangeSpec := { name := "auditPages", fn := fun _ => fun
  | [d1, d2, d3] => { results := [.lit (.bool true)], args := [d1, d2, d3] }
  | _ => none }
def auditPagesRow : OpenClaim := { program := "ytnkgdabapgdiaaa", sum := "972e76bd1d6b5d4eb41aaea2e61d051e9f0583261868b43f1909d042d6265696", func := "paravent/paraventlaw17.AuditPages", spec := "auditPages", unfollowed := true, recurses := true, apart := false }
def AuditPagesSaid : Prop := auditPagesRow.holds Try.pinned (OpenSpec.ofChange auditPagesSpec)

/-- ITS FALSE NEIGHBOUR: 'it returns false'. Refute it at one input. -/
def auditPagesWrong : ChangeSpec := { name := "auditPages", fn := fun _ => fun
  | [d1, d2, d3] => { results := [.lit (.bool false)], args := [d1, d2, d3] }
  | _ => none }
def AuditPagesWrongFalsely : Prop := auditPagesRow.holds Try.pinned (OpenSpec.ofChange auditPagesWrong)

/-- 'paraventlaw17.AuditOthers': WHATEVER THE INPUT: true; the input reads as it did. -/
def auditOthersSpec : ChangeSpec := { name := "auditOthers", fn := fun _ => fun
  | [d1, d2, d3] => { results := [.lit (.bool true)], args := [d1, d2, d3] }
  | _ => none }
def auditOthersRow : OpenClaim := { program := "ytnkgdabapgdiaaa", sum := "972e76bd1d6b5d4eb41aaea2e61d051e9f0583261868b43f1909d042d6265696", func := "paravent/paraventlaw17.AuditOthers", spec := "auditOthers", unfollowed := true, recurses := true, apart := false }
def AuditOthersSaid : Prop := auditOthersRow.holds Try.pinned (OpenSpec.ofChange auditOthersSpec)

/-- ITS FALSE NEIGHBOUR: 'it returns false'. Refute it at one input. -/
def auditOthersWrong : ChangeSpec := { name := "auditOthers", fn := fun _ => fun
  | [d1, d2, d3] => { results := [.lit (.bool false)], args := [d1, d2, d3] }
  | _ => none }
def AuditOthersWrongFalsely : Prop := auditOthersRow.holds Try.pinned (OpenSpec.ofChange auditOthersWrong)

/-- 'paraventlaw17.AuditPlays': WHATEVER THE INPUT: true; the input reads as it did. -/
def auditPlaysSpec : ChangeSpec := { name := "auditPlays", fn := fun _ => fun
  | [d1, d2] => { results := [.lit (.bool true)], args := [d1, d2] }
  | _ => none }
def auditPlaysRow : OpenClaim := { program := "ytnkgdabapgdiaaa", sum := "972e76bd1d6b5d4eb41aaea2e61d051e9f0583261868b43f1909d042d6265696", func := "paravent/paraventlaw17.AuditPlays", spec := "auditPlays", unfollowed := true, recurses := true, apart := false }
def AuditPlaysSaid : Prop := auditPlaysRow.holds Try.pinned (OpenSpec.ofChange auditPlaysSpec)

/-- ITS FALSE NEIGHBOUR: 'it returns false'. Refute it at one input. -/
def auditPlaysWrong : ChangeSpec := { name := "auditPlays", fn := fun _ => fun
  | [d1, d2] => { results := [.lit (.bool false)], args := [d1, d2] }
  | _ => none }
def AuditPlaysWrongFalsely : Prop := auditPlaysRow.holds Try.pinned (OpenSpec.ofChange auditPlaysWrong)

/-- 'paraventlaw17.AuditSkips': WHATEVER THE INPUT: true; the input reads as it did. -/
def auditSkipsSpec : ChangeSpec := { name := "auditSkips", fn := fun _ => fun
  | [d1, d2, d3] => { results := [.lit (.bool true)], args := [d1, d2, d3] }
  | _ => none }
def auditSkipsRow : OpenClaim := { program := "ytnkgdabapgdiaaa", sum := "972e76bd1d6b5d4eb41aaea2e61d051e9f0583261868b43f1909d042d6265696", func := "paravent/paraventlaw17.AuditSkips", spec := "auditSkips", unfollowed := true, recurses := true, apart := false }
def AuditSkipsSaid : Prop := auditSkipsRow.holds Try.pinned (OpenSpec.ofChange auditSkipsSpec)

/-- ITS FALSE NEIGHBOUR: 'it returns false'. Refute it at one input. -/
def auditSkipsWrong : ChangeSpec := { name := "auditSkips", fn := fun _ => fun
  | [d1, d2, d3] => { results := [.lit (.bool false)], args := [d1, d2, d3] }
  | _ => none }
def AuditSkipsWrongFalsely : Prop := auditSkipsRow.holds Try.pinned (OpenSpec.ofChange auditSkipsWrong)

/-- 'paraventlaw17.AuditNil': WHATEVER THE INPUT: true; the input reads as it did. -/
def auditNilSpec : ChangeSpec := { name := "auditNil", fn := fun _ => fun
  | [d1, d2] => { results := [.lit (.bool true)], args := [d1, d2] }
  | _ => none }
def auditNilRow : OpenClaim := { program := "ytnkgdabapgdiaaa", sum := "972e76bd1d6b5d4eb41aaea2e61d051e9f0583261868b43f1909d042d6265696", func := "paravent/paraventlaw17.AuditNil", spec := "auditNil", unfollowed := true, recurses := true, apart := false }
def AuditNilSaid : Prop := auditNilRow.holds Try.pinned (OpenSpec.ofChange auditNilSpec)

/-- ITS FALSE NEIGHBOUR: 'it returns false'. Refute it at one input. -/
def auditNilWrong : ChangeSpec := { name := "auditNil", fn := fun _ => fun
  | [d1, d2] => { results := [.lit (.bool false)], args := [d1, d2] }
  | _ => none }
def AuditNilWrongFalsely : Prop := auditNilRow.holds Try.pinned (OpenSpec.ofChange auditNilWrong)

/- THE SECOND FORM. 'bulk': how many values and letters a reading holds, each counted each time it is reached (what is shared counts as often as it is met; a slice's spare places count too). A statement '..UptoSaid' is the law's where the arguments, and the package variables that the reading takes, are together of bulk at most 1048576: NARROWER than '..Said'. Prove '..Said' where nothing that the law and all that it calls make is longer than what came in: it says more and counts as full. Else prove '..UptoSaid'. A law counts once. -/
mutual
def uptoBulk {H : Type} : DataW H → Nat
  | .lit (.string bytes) => bytes.length + 1
  | .lit _ => 1
  | .nil => 1
  | .ptr d => uptoBulk d + 1
  | .slice elems spare => uptoBulkAll elems + uptoBulkAll spare + 1
  | .agg parts => uptoBulkAll parts + 1
  | .iface _ d => uptoBulk d + 1
  | .map entries => uptoBulkEntries entries + 1
  | .held _ => 1
def uptoBulkAll {H : Type} : List (DataW H) → Nat
  | [] => 0
  | d :: r => uptoBulk d + uptoBulkAll r
def uptoBulkEntries {H : Type} : List (Lit × DataW H) → Nat
  | [] => 0
  | x :: r => uptoBulkEntry x + uptoBulkEntries r
def uptoBulkEntry {H : Type} : Lit × DataW H → Nat
  | (.string bytes, d) => bytes.length + uptoBulk d + 1
  | (_, d) => uptoBulk d + 1
 end
def uptoSmall : (H : Type) → List (DataW H) → Bool := fun _ ds => decide (uptoBulkAll ds ≤ 1048576)
def OpenSpec.upto (s : _root_.Go.ChangeSpec) : _root_.Go.OpenSpec := { _root_.Go.OpenSpec.ofChange s with cond := some uptoSmall }

/-- 'paraventlaw17.AuditOwn', WHERE WHAT IT READS IS OF BULK AT MOST 1048576: true; the input reads as it did. -/
def auditOwnUptoRow : OpenClaim := { program := "ytnkgdabapgdiaaa", sum := "972e76bd1d6b5d4eb41aaea2e61d051e9f0583261868b43f1909d042d6265696", func := "paravent/paraventlaw17.AuditOwn", spec := "auditOwn", unfollowed := true, recurses := true, apart := false, narrowed := true }
def AuditOwnUptoSaid : Prop := auditOwnUptoRow.holds Try.pinned (OpenSpec.upto auditOwnSpec)

/-- 'paraventlaw17.AuditPages', WHERE WHAT IT READS IS OF BULK AT MOST 1048576: true; the input reads as it did. -/
def auditPagesUptoRow : OpenClaim := { program := "ytnkgdabapgdiaaa", sum := "972e76bd1d6b5d4eb41aaea2e61d051e9f0583261868b43f1909d042d6265696", func := "paravent/paraventlaw17.AuditPages", spec := "auditPages", unfollowed := true, recurses := true, apart := false, narrowed := true }
def AuditPagesUptoSaid : Prop := auditPagesUptoRow.holds Try.pinned (OpenSpec.upto auditPagesSpec)

/-- 'paraventlaw17.AuditOthers', WHERE WHAT IT READS IS OF BULK AT MOST 1048576: true; the input reads as it did. -/
def auditOthersUptoRow : OpenClaim := { program := "ytnkgdabapgdiaaa", sum := "972e76bd1d6b5d4eb41aaea2e61d051e9f0583261868b43f1909d042d6265696", func := "paravent/paraventlaw17.AuditOthers", spec := "auditOthers", unfollowed := true, recurses := true, apart := false, narrowed := true }
def AuditOthersUptoSaid : Prop := auditOthersUptoRow.holds Try.pinned (OpenSpec.upto auditOthersSpec)

/-- 'paraventlaw17.AuditPlays', WHERE WHAT IT READS IS OF BULK AT MOST 1048576: true; the input reads as it did. -/
def auditPlaysUptoRow : OpenClaim := { program := "ytnkgdabapgdiaaa", sum := "972e76bd1d6b5d4eb41aaea2e61d051e9f0583261868b43f1909d042d6265696", func := "paravent/paraventlaw17.AuditPlays", spec := "auditPlays", unfollowed := true, recurses := true, apart := false, narrowed := true }
def AuditPlaysUptoSaid : Prop := auditPlaysUptoRow.holds Try.pinned (OpenSpec.upto auditPlaysSpec)

/-- 'paraventlaw17.AuditSkips', WHERE WHAT IT READS IS OF BULK AT MOST 1048576: true; the input reads as it did. -/
def auditSkipsUptoRow : OpenClaim := { program := "ytnkgdabapgdiaaa", sum := "972e76bd1d6b5d4eb41aaea2e61d051e9f0583261868b43f1909d042d6265696", func := "paravent/paraventlaw17.AuditSkips", spec := "auditSkips", unfollowed := true, recurses := true, apart := false, narrowed := true }
def AuditSkipsUptoSaid : Prop := auditSkipsUptoRow.holds Try.pinned (OpenSpec.upto auditSkipsSpec)

/-- 'paraventlaw17.AuditNil', WHERE WHAT IT READS IS OF BULK AT MOST 1048576: true; the input reads as it did. -/
def auditNilUptoRow : OpenClaim := { program := "ytnkgdabapgdiaaa", sum := "972e76bd1d6b5d4eb41aaea2e61d051e9f0583261868b43f1909d042d6265696", func := "paravent/paraventlaw17.AuditNil", spec := "auditNil", unfollowed := true, recurses := true, apart := false, narrowed := true }
def AuditNilUptoSaid : Prop := auditNilUptoRow.holds Try.pinned (OpenSpec.upto auditNilSpec)

end Rows
end Go.Proofs.Ytnkgdabapgdiaaa
