/-
  The closed facts of a row, each by itself. Conditions: none.
-/
import Derived.Test.YtmgpfkoomlgcoaaGreatClosed
import Derived.ProofKit
namespace Go.Proofs.YtmgpfkoomlgcoaaGreat
theorem tenantNil_c0 : (Rows.tenantNilRow.wf (OpenSpec.ofChange Rows.tenantNilSpec)) = true := by kernel_rfl
theorem tenantNil_c3 : (Tryz.f4.params.all (Tryz.prog.readableRec ·)) = true := by kernel_rfl
theorem tenantNil_c4 : (namedTie Tryz.prog Rows.tenantNilRow.named Rows.tenantNilSpec.vars) = true := by kernel_rfl
theorem tenantNil_c5 : (Rows.tenantNilRow.stops == []) = true := by kernel_rfl
theorem tenantNil_c7 : (Rows.tenantNilRow.knobs == []) = true := by kernel_rfl
theorem tenantNil_c9 : (Rows.tenantNilRow.inPlace == Tryz.prog.inPlace 4) = true := by kernel_rfl
theorem tenantNil_c10 : (Rows.tenantNilRow.unfollowed == Tryz.prog.unfollowed 4) = true := by kernel_rfl
theorem tenantNil_c11 : (Rows.tenantNilRow.recurses == Tryz.prog.recurses 4) = true := by kernel_rfl
theorem tenantNil_c12 : (Rows.tenantNilRow.named == Tryz.prog.varsNamed 4) = true := by kernel_rfl
theorem tenantNil_c13 : (Rows.tenantNilRow.maps == (Tryz.f4.params.toList ++ Rows.tenantNilSpec.plain.varTypes Tryz.prog).any (Tryz.prog.mapsRec ·)) = true := by kernel_rfl
theorem tenantNil_c14 : (Rows.tenantNilRow.ifaces == (Tryz.f4.params.toList ++ Rows.tenantNilSpec.plain.varTypes Tryz.prog).any (Tryz.prog.ifacesRec ·)) = true := by kernel_rfl
theorem tenantNil_c15 : (Rows.tenantNilRow.mapsOut == Tryz.prog.mapsAmong Tryz.f4.resultTypes.toList) = true := by kernel_rfl
theorem tenantNil_c16 : (Rows.tenantNilRow.loops == (Tryz.f4.params.toList ++ Rows.tenantNilSpec.plain.varTypes Tryz.prog).any (Tryz.prog.loopsFrom ·)) = true := by kernel_rfl
theorem tenantNil_c17 : (Rows.tenantNilRow.wideKeys == (Tryz.f4.params.toList ++ Rows.tenantNilSpec.plain.varTypes Tryz.prog ++ Tryz.f4.resultTypes.toList).any (Tryz.prog.wideKeysFrom ·)) = true := by kernel_rfl
theorem tenantNil_c18 : (Rows.tenantNilSpec.vars.all (Tryz.prog.varReadable ·)) = true := by kernel_rfl
theorem tenantNil_c19 : (Tryz.f4.resultTypes.all (fun t => Tryz.prog.readableRec t && decide (t < Tryz.prog.types.size))) = true := by kernel_rfl
theorem tenantNil_c20 : (Rows.tenantNilRow.ifacesOut == Tryz.f4.resultTypes.toList.any (Tryz.prog.ifacesRec ·)) = true := by kernel_rfl
theorem tenantNil_c21 : (Rows.tenantNilRow.loopsOut == Tryz.f4.resultTypes.toList.any (Tryz.prog.loopsFrom ·)) = true := by kernel_rfl
theorem tenantNil_c22 : (Rows.tenantNilRow.plainKeys == Tryz.prog.plainKeys) = true := by kernel_rfl
theorem tenantNil_c23 : (Rows.tenantNilRow.shortTexts.isNone) = true := by kernel_rfl
theorem tenantNil_c26 : (Rows.tenantNilRow.lifted == Tryz.prog.liftsFinal) = true := by kernel_rfl
theorem tenantNil_c27 : (Tryz.prog.make == some Rows.tenantNilRow.make) = true := by kernel_rfl
theorem tenantNil_c29 : (Rows.tenantNilRow.pinned == Rows.tenantNilRow.pinnedBy) = true := by kernel_rfl
theorem tenantNil_c30 : (Rows.tenantNilRow.veiled == (Tryz.f4.params.toList ++ Rows.tenantNilSpec.plain.varTypes Tryz.prog ++ Tryz.f4.resultTypes.toList).any (Tryz.prog.veiledRec ·)) = true := by kernel_rfl
theorem tenantNil_c31 : (Rows.tenantNilRow.veiledFits Tryz.prog Tryz.f4.params.toList (Tryz.f4.params.toList ++ Rows.tenantNilSpec.plain.varTypes Tryz.prog ++ Tryz.f4.resultTypes.toList)) = true := by kernel_rfl
theorem tenantNil_closed : joinedFacts Tryz.prog 4 Tryz.f4 Rows.tenantNilSpec Rows.tenantNilRow = true := by
  rw [joinedFacts]
  exact (and_t (and_t (and_t (and_t (and_t (and_t (and_t (and_t (and_t (and_t (and_t (and_t (and_t (and_t (and_t (and_t (and_t (and_t (and_t (and_t (and_t (and_t (and_t (and_t (and_t (and_t (and_t (and_t (and_t (and_t (and_t tenantNil_c0 seat_laid) seat_mapsRowed) tenantNil_c3) tenantNil_c4) tenantNil_c5) seat_stops) tenantNil_c7) seat_stopKnobs) tenantNil_c9) tenantNil_c10) tenantNil_c11) tenantNil_c12) tenantNil_c13) tenantNil_c14) tenantNil_c15) tenantNil_c16) tenantNil_c17) tenantNil_c18) tenantNil_c19) tenantNil_c20) tenantNil_c21) tenantNil_c22) tenantNil_c23) seat_heard) seat_enter) tenantNil_c26) tenantNil_c27) (by kernel_rfl)) tenantNil_c29) tenantNil_c30) tenantNil_c31)
theorem tenantNil_named : Tryz.prog.funcNamed Rows.tenantNilRow.func = some 4 := by kernel_rfl
theorem tenantNil_noInit : Tryz.prog.inits.idxOf? 4 = none := by kernel_rfl
end Go.Proofs.YtmgpfkoomlgcoaaGreat
