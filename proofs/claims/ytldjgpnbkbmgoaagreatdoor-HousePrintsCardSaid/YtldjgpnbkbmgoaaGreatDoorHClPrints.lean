/-
  The closed facts of a row, each by itself. Conditions: none.
-/
import Derived.Test.YtldjgpnbkbmgoaaGreatDoorHClosed
import Derived.ProofKit
namespace Go.Proofs.YtldjgpnbkbmgoaaGreatDoor
theorem housePrints_c0 : (Rows.housePrintsRow.wf (OpenSpec.ofChange Rows.housePrintsSpec)) = true := by kernel_rfl
theorem housePrints_c3 : (Tryz.f4.params.all (Tryz.prog.readableRec ·)) = true := by kernel_rfl
theorem housePrints_c4 : (namedTie Tryz.prog Rows.housePrintsRow.named Rows.housePrintsSpec.vars) = true := by kernel_rfl
theorem housePrints_c5 : (Rows.housePrintsRow.stops == []) = true := by kernel_rfl
theorem housePrints_c7 : (Rows.housePrintsRow.knobs == []) = true := by kernel_rfl
theorem housePrints_c9 : (Rows.housePrintsRow.inPlace == Tryz.prog.inPlace 4) = true := by kernel_rfl
theorem housePrints_c10 : (Rows.housePrintsRow.unfollowed == Tryz.prog.unfollowed 4) = true := by kernel_rfl
theorem housePrints_c11 : (Rows.housePrintsRow.recurses == Tryz.prog.recurses 4) = true := by kernel_rfl
theorem housePrints_c12 : (Rows.housePrintsRow.named == Tryz.prog.varsNamed 4) = true := by kernel_rfl
theorem housePrints_c13 : (Rows.housePrintsRow.maps == (Tryz.f4.params.toList ++ Rows.housePrintsSpec.plain.varTypes Tryz.prog).any (Tryz.prog.mapsRec ·)) = true := by kernel_rfl
theorem housePrints_c14 : (Rows.housePrintsRow.ifaces == (Tryz.f4.params.toList ++ Rows.housePrintsSpec.plain.varTypes Tryz.prog).any (Tryz.prog.ifacesRec ·)) = true := by kernel_rfl
theorem housePrints_c15 : (Rows.housePrintsRow.mapsOut == Tryz.prog.mapsAmong Tryz.f4.resultTypes.toList) = true := by kernel_rfl
theorem housePrints_c16 : (Rows.housePrintsRow.loops == (Tryz.f4.params.toList ++ Rows.housePrintsSpec.plain.varTypes Tryz.prog).any (Tryz.prog.loopsFrom ·)) = true := by kernel_rfl
theorem housePrints_c17 : (Rows.housePrintsRow.wideKeys == (Tryz.f4.params.toList ++ Rows.housePrintsSpec.plain.varTypes Tryz.prog ++ Tryz.f4.resultTypes.toList).any (Tryz.prog.wideKeysFrom ·)) = true := by kernel_rfl
theorem housePrints_c18 : (Rows.housePrintsSpec.vars.all (Tryz.prog.varReadable ·)) = true := by kernel_rfl
theorem housePrints_c19 : (Tryz.f4.resultTypes.all (fun t => Tryz.prog.readableRec t && decide (t < Tryz.prog.types.size))) = true := by kernel_rfl
theorem housePrints_c20 : (Rows.housePrintsRow.ifacesOut == Tryz.f4.resultTypes.toList.any (Tryz.prog.ifacesRec ·)) = true := by kernel_rfl
theorem housePrints_c21 : (Rows.housePrintsRow.loopsOut == Tryz.f4.resultTypes.toList.any (Tryz.prog.loopsFrom ·)) = true := by kernel_rfl
theorem housePrints_c22 : (Rows.housePrintsRow.plainKeys == Tryz.prog.plainKeys) = true := by kernel_rfl
theorem housePrints_c23 : (Rows.housePrintsRow.shortTexts.isNone) = true := by kernel_rfl
theorem housePrints_c26 : (Rows.housePrintsRow.lifted == Tryz.prog.liftsFinal) = true := by kernel_rfl
theorem housePrints_c27 : (Tryz.prog.make == some Rows.housePrintsRow.make) = true := by kernel_rfl
theorem housePrints_c29 : (Rows.housePrintsRow.pinned == Rows.housePrintsRow.pinnedBy) = true := by kernel_rfl
theorem housePrints_c30 : (Rows.housePrintsRow.veiled == (Tryz.f4.params.toList ++ Rows.housePrintsSpec.plain.varTypes Tryz.prog ++ Tryz.f4.resultTypes.toList).any (Tryz.prog.veiledRec ·)) = true := by kernel_rfl
theorem housePrints_c31 : (Rows.housePrintsRow.veiledFits Tryz.prog Tryz.f4.params.toList (Tryz.f4.params.toList ++ Rows.housePrintsSpec.plain.varTypes Tryz.prog ++ Tryz.f4.resultTypes.toList)) = true := by kernel_rfl
theorem housePrints_closed : joinedFacts Tryz.prog 4 Tryz.f4 Rows.housePrintsSpec Rows.housePrintsRow = true := by
  rw [joinedFacts]
  exact (and_t (and_t (and_t (and_t (and_t (and_t (and_t (and_t (and_t (and_t (and_t (and_t (and_t (and_t (and_t (and_t (and_t (and_t (and_t (and_t (and_t (and_t (and_t (and_t (and_t (and_t (and_t (and_t (and_t (and_t (and_t housePrints_c0 seat_laid) seat_mapsRowed) housePrints_c3) housePrints_c4) housePrints_c5) seat_stops) housePrints_c7) seat_stopKnobs) housePrints_c9) housePrints_c10) housePrints_c11) housePrints_c12) housePrints_c13) housePrints_c14) housePrints_c15) housePrints_c16) housePrints_c17) housePrints_c18) housePrints_c19) housePrints_c20) housePrints_c21) housePrints_c22) housePrints_c23) seat_heard) seat_enter) housePrints_c26) housePrints_c27) (by kernel_rfl)) housePrints_c29) housePrints_c30) housePrints_c31)
theorem housePrints_named : Tryz.prog.funcNamed Rows.housePrintsRow.func = some 4 := by kernel_rfl
theorem housePrints_noInit : Tryz.prog.inits.idxOf? 4 = none := by kernel_rfl
end Go.Proofs.YtldjgpnbkbmgoaaGreatDoor
