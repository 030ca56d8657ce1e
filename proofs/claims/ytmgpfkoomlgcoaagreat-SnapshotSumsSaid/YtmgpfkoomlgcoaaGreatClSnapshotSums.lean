/-
  The closed facts of a row, each by itself. Conditions: none.
-/
import Derived.Test.YtmgpfkoomlgcoaaGreatClosed
import Derived.ProofKit
namespace Go.Proofs.YtmgpfkoomlgcoaaGreat
theorem snapshotSums_c0 : (Rows.snapshotSumsRow.wf (OpenSpec.ofChange Rows.snapshotSumsSpec)) = true := by kernel_rfl
theorem snapshotSums_c3 : (Tryz.f3.params.all (Tryz.prog.readableRec ·)) = true := by kernel_rfl
theorem snapshotSums_c4 : (namedTie Tryz.prog Rows.snapshotSumsRow.named Rows.snapshotSumsSpec.vars) = true := by kernel_rfl
theorem snapshotSums_c5 : (Rows.snapshotSumsRow.stops == []) = true := by kernel_rfl
theorem snapshotSums_c7 : (Rows.snapshotSumsRow.knobs == []) = true := by kernel_rfl
theorem snapshotSums_c9 : (Rows.snapshotSumsRow.inPlace == Tryz.prog.inPlace 3) = true := by kernel_rfl
theorem snapshotSums_c10 : (Rows.snapshotSumsRow.unfollowed == Tryz.prog.unfollowed 3) = true := by kernel_rfl
theorem snapshotSums_c11 : (Rows.snapshotSumsRow.recurses == Tryz.prog.recurses 3) = true := by kernel_rfl
theorem snapshotSums_c12 : (Rows.snapshotSumsRow.named == Tryz.prog.varsNamed 3) = true := by kernel_rfl
theorem snapshotSums_c13 : (Rows.snapshotSumsRow.maps == (Tryz.f3.params.toList ++ Rows.snapshotSumsSpec.plain.varTypes Tryz.prog).any (Tryz.prog.mapsRec ·)) = true := by kernel_rfl
theorem snapshotSums_c14 : (Rows.snapshotSumsRow.ifaces == (Tryz.f3.params.toList ++ Rows.snapshotSumsSpec.plain.varTypes Tryz.prog).any (Tryz.prog.ifacesRec ·)) = true := by kernel_rfl
theorem snapshotSums_c15 : (Rows.snapshotSumsRow.mapsOut == Tryz.prog.mapsAmong Tryz.f3.resultTypes.toList) = true := by kernel_rfl
theorem snapshotSums_c16 : (Rows.snapshotSumsRow.loops == (Tryz.f3.params.toList ++ Rows.snapshotSumsSpec.plain.varTypes Tryz.prog).any (Tryz.prog.loopsFrom ·)) = true := by kernel_rfl
theorem snapshotSums_c17 : (Rows.snapshotSumsRow.wideKeys == (Tryz.f3.params.toList ++ Rows.snapshotSumsSpec.plain.varTypes Tryz.prog ++ Tryz.f3.resultTypes.toList).any (Tryz.prog.wideKeysFrom ·)) = true := by kernel_rfl
theorem snapshotSums_c18 : (Rows.snapshotSumsSpec.vars.all (Tryz.prog.varReadable ·)) = true := by kernel_rfl
theorem snapshotSums_c19 : (Tryz.f3.resultTypes.all (fun t => Tryz.prog.readableRec t && decide (t < Tryz.prog.types.size))) = true := by kernel_rfl
theorem snapshotSums_c20 : (Rows.snapshotSumsRow.ifacesOut == Tryz.f3.resultTypes.toList.any (Tryz.prog.ifacesRec ·)) = true := by kernel_rfl
theorem snapshotSums_c21 : (Rows.snapshotSumsRow.loopsOut == Tryz.f3.resultTypes.toList.any (Tryz.prog.loopsFrom ·)) = true := by kernel_rfl
theorem snapshotSums_c22 : (Rows.snapshotSumsRow.plainKeys == Tryz.prog.plainKeys) = true := by kernel_rfl
theorem snapshotSums_c23 : (Rows.snapshotSumsRow.shortTexts.isNone) = true := by kernel_rfl
theorem snapshotSums_c26 : (Rows.snapshotSumsRow.lifted == Tryz.prog.liftsFinal) = true := by kernel_rfl
theorem snapshotSums_c27 : (Tryz.prog.make == some Rows.snapshotSumsRow.make) = true := by kernel_rfl
theorem snapshotSums_c29 : (Rows.snapshotSumsRow.pinned == Rows.snapshotSumsRow.pinnedBy) = true := by kernel_rfl
theorem snapshotSums_c30 : (Rows.snapshotSumsRow.veiled == (Tryz.f3.params.toList ++ Rows.snapshotSumsSpec.plain.varTypes Tryz.prog ++ Tryz.f3.resultTypes.toList).any (Tryz.prog.veiledRec ·)) = true := by kernel_rfl
theorem snapshotSums_c31 : (Rows.snapshotSumsRow.veiledFits Tryz.prog Tryz.f3.params.toList (Tryz.f3.params.toList ++ Rows.snapshotSumsSpec.plain.varTypes Tryz.prog ++ Tryz.f3.resultTypes.toList)) = true := by kernel_rfl
theorem snapshotSums_closed : joinedFacts Tryz.prog 3 Tryz.f3 Rows.snapshotSumsSpec Rows.snapshotSumsRow = true := by
  rw [joinedFacts]
  exact (and_t (and_t (and_t (and_t (and_t (and_t (and_t (and_t (and_t (and_t (and_t (and_t (and_t (and_t (and_t (and_t (and_t (and_t (and_t (and_t (and_t (and_t (and_t (and_t (and_t (and_t (and_t (and_t (and_t (and_t (and_t snapshotSums_c0 seat_laid) seat_mapsRowed) snapshotSums_c3) snapshotSums_c4) snapshotSums_c5) seat_stops) snapshotSums_c7) seat_stopKnobs) snapshotSums_c9) snapshotSums_c10) snapshotSums_c11) snapshotSums_c12) snapshotSums_c13) snapshotSums_c14) snapshotSums_c15) snapshotSums_c16) snapshotSums_c17) snapshotSums_c18) snapshotSums_c19) snapshotSums_c20) snapshotSums_c21) snapshotSums_c22) snapshotSums_c23) seat_heard) seat_enter) snapshotSums_c26) snapshotSums_c27) (by kernel_rfl)) snapshotSums_c29) snapshotSums_c30) snapshotSums_c31)
theorem snapshotSums_named : Tryz.prog.funcNamed Rows.snapshotSumsRow.func = some 3 := by kernel_rfl
theorem snapshotSums_noInit : Tryz.prog.inits.idxOf? 3 = none := by kernel_rfl
end Go.Proofs.YtmgpfkoomlgcoaaGreat
