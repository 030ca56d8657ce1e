/-
  The closed facts of a row, each by itself. Conditions: none.
-/
import Derived.Test.YtmgpfkoomlgcoaaGreatClosed
import Derived.ProofKit
namespace Go.Proofs.YtmgpfkoomlgcoaaGreat
theorem scriptAsks_c0 : (Rows.scriptAsksRow.wf (OpenSpec.ofChange Rows.scriptAsksSpec)) = true := by kernel_rfl
theorem scriptAsks_c3 : (Tryz.f6.params.all (Tryz.prog.readableRec ·)) = true := by kernel_rfl
theorem scriptAsks_c4 : (namedTie Tryz.prog Rows.scriptAsksRow.named Rows.scriptAsksSpec.vars) = true := by kernel_rfl
theorem scriptAsks_c5 : (Rows.scriptAsksRow.stops == []) = true := by kernel_rfl
theorem scriptAsks_c7 : (Rows.scriptAsksRow.knobs == []) = true := by kernel_rfl
theorem scriptAsks_c9 : (Rows.scriptAsksRow.inPlace == Tryz.prog.inPlace 6) = true := by kernel_rfl
theorem scriptAsks_c10 : (Rows.scriptAsksRow.unfollowed == Tryz.prog.unfollowed 6) = true := by kernel_rfl
theorem scriptAsks_c11 : (Rows.scriptAsksRow.recurses == Tryz.prog.recurses 6) = true := by kernel_rfl
theorem scriptAsks_c12 : (Rows.scriptAsksRow.named == Tryz.prog.varsNamed 6) = true := by kernel_rfl
theorem scriptAsks_c13 : (Rows.scriptAsksRow.maps == (Tryz.f6.params.toList ++ Rows.scriptAsksSpec.plain.varTypes Tryz.prog).any (Tryz.prog.mapsRec ·)) = true := by kernel_rfl
theorem scriptAsks_c14 : (Rows.scriptAsksRow.ifaces == (Tryz.f6.params.toList ++ Rows.scriptAsksSpec.plain.varTypes Tryz.prog).any (Tryz.prog.ifacesRec ·)) = true := by kernel_rfl
theorem scriptAsks_c15 : (Rows.scriptAsksRow.mapsOut == Tryz.prog.mapsAmong Tryz.f6.resultTypes.toList) = true := by kernel_rfl
theorem scriptAsks_c16 : (Rows.scriptAsksRow.loops == (Tryz.f6.params.toList ++ Rows.scriptAsksSpec.plain.varTypes Tryz.prog).any (Tryz.prog.loopsFrom ·)) = true := by kernel_rfl
theorem scriptAsks_c17 : (Rows.scriptAsksRow.wideKeys == (Tryz.f6.params.toList ++ Rows.scriptAsksSpec.plain.varTypes Tryz.prog ++ Tryz.f6.resultTypes.toList).any (Tryz.prog.wideKeysFrom ·)) = true := by kernel_rfl
theorem scriptAsks_c18 : (Rows.scriptAsksSpec.vars.all (Tryz.prog.varReadable ·)) = true := by kernel_rfl
theorem scriptAsks_c19 : (Tryz.f6.resultTypes.all (fun t => Tryz.prog.readableRec t && decide (t < Tryz.prog.types.size))) = true := by kernel_rfl
theorem scriptAsks_c20 : (Rows.scriptAsksRow.ifacesOut == Tryz.f6.resultTypes.toList.any (Tryz.prog.ifacesRec ·)) = true := by kernel_rfl
theorem scriptAsks_c21 : (Rows.scriptAsksRow.loopsOut == Tryz.f6.resultTypes.toList.any (Tryz.prog.loopsFrom ·)) = true := by kernel_rfl
theorem scriptAsks_c22 : (Rows.scriptAsksRow.plainKeys == Tryz.prog.plainKeys) = true := by kernel_rfl
theorem scriptAsks_c23 : (Rows.scriptAsksRow.shortTexts.isNone) = true := by kernel_rfl
theorem scriptAsks_c26 : (Rows.scriptAsksRow.lifted == Tryz.prog.liftsFinal) = true := by kernel_rfl
theorem scriptAsks_c27 : (Tryz.prog.make == some Rows.scriptAsksRow.make) = true := by kernel_rfl
theorem scriptAsks_c29 : (Rows.scriptAsksRow.pinned == Rows.scriptAsksRow.pinnedBy) = true := by kernel_rfl
theorem scriptAsks_c30 : (Rows.scriptAsksRow.veiled == (Tryz.f6.params.toList ++ Rows.scriptAsksSpec.plain.varTypes Tryz.prog ++ Tryz.f6.resultTypes.toList).any (Tryz.prog.veiledRec ·)) = true := by kernel_rfl
theorem scriptAsks_c31 : (Rows.scriptAsksRow.veiledFits Tryz.prog Tryz.f6.params.toList (Tryz.f6.params.toList ++ Rows.scriptAsksSpec.plain.varTypes Tryz.prog ++ Tryz.f6.resultTypes.toList)) = true := by kernel_rfl
theorem scriptAsks_closed : joinedFacts Tryz.prog 6 Tryz.f6 Rows.scriptAsksSpec Rows.scriptAsksRow = true := by
  rw [joinedFacts]
  exact (and_t (and_t (and_t (and_t (and_t (and_t (and_t (and_t (and_t (and_t (and_t (and_t (and_t (and_t (and_t (and_t (and_t (and_t (and_t (and_t (and_t (and_t (and_t (and_t (and_t (and_t (and_t (and_t (and_t (and_t (and_t scriptAsks_c0 seat_laid) seat_mapsRowed) scriptAsks_c3) scriptAsks_c4) scriptAsks_c5) seat_stops) scriptAsks_c7) seat_stopKnobs) scriptAsks_c9) scriptAsks_c10) scriptAsks_c11) scriptAsks_c12) scriptAsks_c13) scriptAsks_c14) scriptAsks_c15) scriptAsks_c16) scriptAsks_c17) scriptAsks_c18) scriptAsks_c19) scriptAsks_c20) scriptAsks_c21) scriptAsks_c22) scriptAsks_c23) seat_heard) seat_enter) scriptAsks_c26) scriptAsks_c27) (by kernel_rfl)) scriptAsks_c29) scriptAsks_c30) scriptAsks_c31)
theorem scriptAsks_named : Tryz.prog.funcNamed Rows.scriptAsksRow.func = some 6 := by kernel_rfl
theorem scriptAsks_noInit : Tryz.prog.inits.idxOf? 6 = none := by kernel_rfl
end Go.Proofs.YtmgpfkoomlgcoaaGreat
