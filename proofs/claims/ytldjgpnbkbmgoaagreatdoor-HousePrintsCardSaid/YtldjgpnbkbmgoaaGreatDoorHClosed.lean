/-
  What holds of the seat's program alone: the closed facts that each row asks for. Conditions: none.
-/
import Derived.Test.YtldjgpnbkbmgoaaGreatDoorRows
import Derived.ProofKit
import GoSem.ClaimGoes
namespace Go.Proofs.YtldjgpnbkbmgoaaGreatDoor
theorem and_t {a b : Bool} (h : a = true) (k : b = true) : (a && b) = true := by rw [h, k]; rfl
theorem seat_laid : laidOutB Tryz.prog = true := by kernel_rfl
theorem seat_mapsRowed : mapsRowed Tryz.prog = true := by kernel_rfl
theorem seat_stops : (Tryz.prog.stops == []) = true := by kernel_rfl
theorem seat_stopKnobs : (Tryz.prog.stopKnobs == []) = true := by kernel_rfl
theorem seat_heard : Tryz.prog.stopsHeard = true := by kernel_rfl
theorem seat_enter : Tryz.prog.mayEnter = true := by kernel_rfl
theorem seat_keys : (false == Tryz.prog.plainKeys) = true := by kernel_rfl
theorem goes_none {P : Program} (h : P.funcs.any Func.goes = false) {c : OpenClaim} (hst : c.start = .entering) : false = c.goesBy P := by
  have hall : ∀ fn ∈ P.funcs, fn.goes = false := fun fn hm => by
    cases hg : fn.goes with
    | false => rfl
    | true =>
      have : P.funcs.any Func.goes = true := Array.any_eq_true'.2 ⟨fn, hm, hg⟩
      rw [h] at this
      cases this
  have hg : ∀ f, P.goes f = false := fun f => by
    unfold Program.goes
    rw [h, Bool.and_false, Bool.or_false, List.any_eq_false]
    intro g _
    cases hf : P.funcs[g]? with
    | none => simp
    | some fn =>
      have := hall fn (Array.mem_of_getElem? hf)
      simp [this]
  unfold OpenClaim.goesBy Program.goesAt Program.goesFrom
  rw [hst]
  cases P.funcNamed c.func <;> simp [hg]
theorem seat_goes : Tryz.prog.funcs.any Func.goes = false := by kernel_rfl
end Go.Proofs.YtldjgpnbkbmgoaaGreatDoor
