/-
  What holds of the seat's program alone: the closed facts that each row asks for. Conditions: none.
-/
import Derived.Test.YtmgpfkoomlgcoaaGreatRows
namespace Go.Proofs.YtmgpfkoomlgcoaaGreat
theorem and_t {a b : Bool} (h : a = true) (k : b = true) : (a && b) = true := by rw [h, k]; rfl
theorem seat_laid : laidOutB Tryz.prog = true := by kernel_rfl
theorem seat_mapsRowed : mapsRowed Tryz.prog = true := by kernel_rfl
theorem seat_stops : (Tryz.prog.stops == []) = true := by kernel_rfl
theorem seat_stopKnobs : (Tryz.prog.stopKnobs == []) = true := by kernel_rfl
theorem seat_heard : Tryz.prog.stopsHeard = true := by kernel_rfl
theorem seat_enter : Tryz.prog.mayEnter = true := by kernel_rfl
theorem seat_keys : (false == Tryz.prog.plainKeys) = true := by kernel_rfl
theorem knob_none : ownKnob Tryz.prog.godebug = none := by kernel_rfl
end Go.Proofs.YtmgpfkoomlgcoaaGreat
