/-
  The closed facts of a row, each by itself. Conditions: none.
-/
import Derived.Test.YtmgpfkoomlgcoaaGreatClosed
import Derived.ProofKit
namespace Go.Proofs.YtmgpfkoomlgcoaaGreat
theorem serverNil_c0 : (Rows.serverNilRow.wf (OpenSpec.ofChange Rows.serverNilSpec)) = true := by kernel_rfl
theorem serverNil_c3 : (Tryz.f7.params.all (Tryz.prog.readableRec ·)) = true := by kernel_rfl
theorem serverNil_c4 : (namedTie Tryz.prog Rows.serverNilRow.named Rows.serverNilSpec.vars) = true := by kernel_rfl
theorem serverNil_c5 : (Rows.serverNilRow.stops == []) = true := by kernel_rfl
theorem serverNil_c7 : (Rows.serverNilRow.knobs == []) = true := by kernel_rfl
theorem serverNil_c9 : (Rows.serverNilRow.inPlace == Tryz.prog.inPlace 7) = true := by kernel_rfl
theorem serverNil_c10 : (Rows.serverNilRow.unfollowed == Tryz.prog.unfollowed 7) = true := by kernel_rfl
theorem serverNil_c11 : (Rows.serverNilRow.recurses == Tryz.prog.recurses 7) = true := by kernel_rfl
theorem serverNil_c12 : (Rows.serverNilRow.named == Tryz.prog.varsNamed 7) = true := by kernel_rfl
theorem serverNil_c13 : (Rows.serverNilRow.maps == (Tryz.f7.params.toList ++ Rows.serverNilSpec.plain.varTypes Tryz.prog).any (Tryz.prog.mapsRec ·)) = true := by kernel_rfl
theorem serverNil_c14 : (Rows.serverNilRow.ifaces == (Tryz.f7.params.toList ++ Rows.serverNilSpec.plain.varTypes Tryz.prog).any (Tryz.prog.ifacesRec ·)) = true := by kernel_rfl
theorem serverNil_c15 : (Rows.serverNilRow.mapsOut == Tryz.prog.mapsAmong Tryz.f7.resultTypes.toList) = true := by kernel_rfl
theorem serverNil_c16 : (Rows.serverNilRow.loops == (Tryz.f7.params.toList ++ Rows.serverNilSpec.plain.varTypes Tryz.prog).any (Tryz.prog.loopsFrom ·)) = true := by kernel_rfl
theorem serverNil_c17 : (Rows.serverNilRow.wideKeys == (Tryz.f7.params.toList ++ Rows.serverNilSpec.plain.varTypes Tryz.prog ++ Tryz.f7.resultTypes.toList).any (Tryz.prog.wideKeysFrom ·)) = true := by kernel_rfl
theorem serverNil_c18 : (Rows.serverNilSpec.vars.all (Tryz.prog.varReadable ·)) = true := by kernel_rfl
theorem serverNil_c19 : (Tryz.f7.resultTypes.all (fun t => Tryz.prog.readableRec t && decide (t < Tryz.prog.types.size))) = true := by kernel_rfl
theorem serverNil_c20 : (Rows.serverNilRow.ifacesOut == Tryz.f7.resultTypes.toList.any (Tryz.prog.ifacesRec ·)) = true := by kernel_rfl
theorem serverNil_c21 : (Rows.serverNilRow.loopsOut == Tryz.f7.resultTypes.toList.any (Tryz.prog.loopsFrom ·)) = true := by kernel_rfl
theorem serverNil_c22 : (Rows.serverNilRow.plainKeys == Tryz.prog.plainKeys) = true := by kernel_rfl
theorem serverNil_c23 : (Rows.serverNilRow.shortTexts.isNone) = true := by kernel_rfl
theorem serverNil_c26 : (Rows.serverNilRow.lifted == Tryz.prog.liftsFinal) = true := by kernel_rfl
theorem serverNil_c27 : (Tryz.prog.make == some Rows.serverNilRow.make) = true := by kernel_rfl
theorem serverNil_c29 : (Rows.serverNilRow.pinned == Rows.serverNilRow.pinnedBy) = true := by kernel_rfl
theorem serverNil_c30 : (Rows.serverNilRow.veiled == (Tryz.f7.params.toList ++ Rows.serverNilSpec.plain.varTypes Tryz.prog ++ Tryz.f7.resultTypes.toList).any (Tryz.prog.veiledRec ·)) = true := by kernel_rfl
theorem serverNil_c31 : (Rows.serverNilRow.veiledFits Tryz.prog Tryz.f7.params.toList (Tryz.f7.params.toList ++ Rows.serverNilSpec.plain.varTypes Tryz.prog ++ Tryz.f7.resultTypes.toList)) = true := by kernel_rfl
theorem serverNil_closed : joinedFacts Tryz.prog 7 Tryz.f7 Rows.serverNilSpec Rows.serverNilRow = true := by
  rw [joinedFacts]
  exact (and_t (and_t (and_t (and_t (and_t (and_t (and_t (and_t (and_t (and_t (and_t (and_t (and_t (and_t (and_t (and_t (and_t (and_t (and_t (and_t (and_t (and_t (and_t (and_t (and_t (and_t (and_t (and_t (and_t (and_t (and_t serverNil_c0 seat_laid) seat_mapsRowed) serverNil_c3) serverNil_c4) serverNil_c5) seat_stops) serverNil_c7) seat_stopKnobs) serverNil_c9) serverNil_c10) serverNil_c11) serverNil_c12) serverNil_c13) serverNil_c14) serverNil_c15) serverNil_c16) serverNil_c17) serverNil_c18) serverNil_c19) serverNil_c20) serverNil_c21) serverNil_c22) serverNil_c23) seat_heard) seat_enter) serverNil_c26) serverNil_c27) (by kernel_rfl)) serverNil_c29) serverNil_c30) serverNil_c31)
theorem serverNil_named : Tryz.prog.funcNamed Rows.serverNilRow.func = some 7 := by kernel_rfl
theorem serverNil_noInit : Tryz.prog.inits.idxOf? 7 = none := by kernel_rfl
end Go.Proofs.YtmgpfkoomlgcoaaGreat
