/-
  A string opened, and how long it may be. Conditions: none. A law over the laid tables: its step, and a world that holds the tables. Conditions: none.
-/
import Derived.Test.YtldjgpnbkbmgoaaGreatDoorPF1
import Derived.Test.YtldjgpnbkbmgoaaGreatDoorCards
import Derived.Test.YtldjgpnbkbmgoaaGreatDoorTie
import Derived.WalkKit
import Derived.ProofKit
import Derived.OpenShut
import Derived.Deep.DeepHandedRow
import Derived.Lib.LaidTab
set_option linter.unusedSimpArgs false
set_option linter.unusedVariables false
set_option maxRecDepth 100000
set_option maxHeartbeats 8000000
namespace Go.Proofs.YtldjgpnbkbmgoaaGreatDoor
open Go.RowKit Go.ChangeShapes Go.WideShapes
section
variable {H : Type} {enc : TypeId × Value → H} {w : World} {base : Nat} {spare : Nat → Bool} {held : Bool}
theorem strh_fits {b : List UInt8} {ts : List TypeId} {ds : List (DataW H)} {j : Nat} (hd : ds[j]? = some (.lit (.string b))) (ht : ts[j]? = some 9) (h : (DataW.weightsEach Tryz.prog ts ds).all (· ≤ reachBytes) = true) : b.length ≤ 140737488355328 := by
  have h1 := List.all_eq_true.1 h _ (DataW.weights_mem_each ht hd b.length (by simp [DataW.weights]))
  have h2 : b.length ≤ reachBytes := by simpa using h1
  have h3 : reachBytes + 4096 = 140737488355328 := by decide
  omega
theorem open_strh {r : Reach} {b0 : Nat} {v : Value} {d : DataW H} {ps : List MemPlace} (hv : Value.okWide Tryz.prog w r b0 9 v) (h : DataW.Trod enc Tryz.prog w base spare held 9 v d ps) : ∃ a : ByteArray, v = .string a ∧ d = .lit (.string a.data.toList) := by
  obtain ⟨s, rfl⟩ := okWide_string Tryz.underlying9 hv
  obtain ⟨fuel, hf⟩ := h
  obtain ⟨s', h, hx, _⟩ := DataW.trod_string Tryz.underlying9 hf
  simp [Value.cells] at h
  subst h
  simp only [Prod.mk.injEq] at hx
  exact ⟨s, rfl, hx.1⟩
end
end Go.Proofs.YtldjgpnbkbmgoaaGreatDoor

namespace Go.Proofs.YtldjgpnbkbmgoaaGreatDoor
open Go.RowKit Go.ChangeShapes Go.WideShapes Go.ChangeAt
section
variable {H : Type} {enc : TypeId × Value → H}
theorem law_lifts_row {C : Checked} (own : ownKnob C.prog.godebug = none) (hl : laidOutB C.prog = true) {os : Os} (started : os.Started) {f : FuncId} {fn : Func} {s : ChangeSpec} {kk : Option ((H : Type) → List (DataW H) → Bool)} {apart fresh handsOn : Bool} {laid : List (String × DataW Unit)} {F : Stop.Interp} {tb : TypeId}
    (noInit : C.prog.inits.idxOf? f = none) (hfn : C.prog.funcs[f]? = some fn)
    (hb : C.prog.underlying tb = some .bool) (hr : fn.resultTypes = #[tb]) (hts : ∀ t ∈ fn.params.toList, C.prog.readableRec t = true ∧ t < C.prog.types.size) (hv : s.vars = [])
    (hspec : ∀ ds : List (DataW H), ds.length = fn.params.toList.length → (s.fn H ds).results = [.lit (.bool true)] ∧ (s.fn H ds).args = ds ∧ (s.fn H ds).vars = [])
    (witness : ∃ (w : World) (tape : Tape) (i : Input), w.os = os ∧ (w.forCall tape i).Shaped C.prog ∧ i.vars = [] ∧ Input.okWide C.prog (w.forCall tape i) .any w.heap.size f i ∧
      ({ OpenSpec.ofChange s with cond := kk } : OpenSpec).preRow enc C.prog fn [] apart laid (w.forCall tape i).memory i.args ∧ ({} : Assume).holds C.prog (lone (Frame.enter C.prog f i.args .normal) [] (w.forCall tape i)))
    (contract : ∀ (W : World) (base : Nat) (args : Array Value) (ds : List (DataW H)) (ps : List MemPlace),
      (∀ (j : Nat) t v, fn.params[j]? = some t → args[j]? = some v → Value.okWide C.prog W .any base t v) →
      DataW.TrodAll enc C.prog W 0 (fun _ => true) true fn.params.toList args.toList ds ps → (∀ k, kk = some k → k H ds = true) → (DataW.weightsEach C.prog fn.params.toList ds).all (· ≤ reachBytes) = true → Calls C.prog f args W (Holds W)) :
    ReturnsInHanded {} C os f .any (({ OpenSpec.ofChange s with cond := kk } : OpenSpec).preRow enc C.prog fn [] apart laid) ((({ OpenSpec.ofChange s with cond := kk } : OpenSpec).at F).post enc C.prog fn apart fresh handsOn false) := by
  refine returnsInHanded_of_row (s := { OpenSpec.ofChange s with cond := kk }) own started noInit hfn witness ?_
  intro W base args ds gs before hval hW _ hk hwt _ _ _
  have hW0 : DataW.Whole enc C.prog fn.params.toList s.vars apart W args.toList ds gs before := hW
  obtain ⟨p, q, hA, hV, rfl, hfz, hnd⟩ := hW0
  have hvt : s.plain.varTypes C.prog = [] := by
    unfold DataSpec.varTypes ChangeSpec.plain
    simp [hv]
  have hV2 := hV
  rw [hv] at hV2
  obtain ⟨rfl, rfl⟩ := trodVars_none hV2
  have hwt2 : (DataW.weightsEach C.prog (fn.params.toList ++ s.plain.varTypes C.prog) (ds ++ [])).all (· ≤ reachBytes) = true := hwt
  rw [hvt, List.append_nil, List.append_nil] at hwt2
  have hk2 : ∀ k, kk = some k → k H ds = true := fun k e => by
    have := hk k e
    rwa [List.append_nil] at this
  exact (contract W base args ds p hval hA hk2 hwt2).mono fun e W' ⟨he, hbel⟩ => ⟨_, he, law_post hl hb hr hts hv hspec hW hbel⟩
end
def firstC : Array Value := (Go.Pinned.utf8FirstZ.map fun (n : Nat) => Value.int .u8 (n : Int)).toArray
def rangesC : Array Value := #[.int .u8 128, .int .u8 191, .int .u8 160, .int .u8 191, .int .u8 128, .int .u8 159, .int .u8 144, .int .u8 191, .int .u8 128, .int .u8 143, .int .u8 0, .int .u8 0, .int .u8 0, .int .u8 0, .int .u8 0, .int .u8 0, .int .u8 0, .int .u8 0, .int .u8 0, .int .u8 0, .int .u8 0, .int .u8 0, .int .u8 0, .int .u8 0, .int .u8 0, .int .u8 0, .int .u8 0, .int .u8 0, .int .u8 0, .int .u8 0, .int .u8 0, .int .u8 0]
def relay (cs : Array Value) : Obj → Obj
  | .cells _ t frozen => .cells cs t frozen
  | o => o
noncomputable def laidWorld (os : Os) : World :=
  { World.holding Tryz.prog os ⟨#[], #[], []⟩ with heap := ((World.holding Tryz.prog os ⟨#[], #[], []⟩).heap.modify 1 (relay firstC)).modify 2 (relay rangesC) }
def laidTab : List (String × DataW Unit) := [("unicode/utf8.acceptRanges", Rows.laid_unicode_utf8_acceptRanges), ("unicode/utf8.first", Rows.laid_unicode_utf8_first)]
theorem laid_met (os : Os) (args : Array Value) : laidMet Tryz.prog laidTab ((laidWorld os).forCall (fun _ _ => 0) ⟨#[], args, []⟩).memory :=
  laidMet_of_run' 8 (by kernel_rfl) (by kernel_rfl)
end Go.Proofs.YtldjgpnbkbmgoaaGreatDoor

