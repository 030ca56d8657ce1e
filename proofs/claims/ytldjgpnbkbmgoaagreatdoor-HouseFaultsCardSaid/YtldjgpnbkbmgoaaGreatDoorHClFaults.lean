/-
  The closed facts of a row, each by itself. Conditions: none.
-/
import Derived.Test.YtldjgpnbkbmgoaaGreatDoorHClosed
import Derived.ProofKit
namespace Go.Proofs.YtldjgpnbkbmgoaaGreatDoor
theorem houseFaults_c0 : (Rows.houseFaultsRow.wf (OpenSpec.ofChange Rows.houseFaultsSpec)) = true := by kernel_rfl
theorem houseFaults_c3 : (Tryz.f3.params.all (Tryz.prog.readableRec ·)) = true := by kernel_rfl
theorem houseFaults_c4 : (namedTie Tryz.prog Rows.houseFaultsRow.named Rows.houseFaultsSpec.vars) = true := by kernel_rfl
theorem houseFaults_c5 : (Rows.houseFaultsRow.stops == []) = true := by kernel_rfl
theorem houseFaults_c7 : (Rows.houseFaultsRow.knobs == []) = true := by kernel_rfl
theorem houseFaults_c9 : (Rows.houseFaultsRow.inPlace == Tryz.prog.inPlace 3) = true := by kernel_rfl
theorem houseFaults_c10 : (Rows.houseFaultsRow.unfollowed == Tryz.prog.unfollowed 3) = true := by kernel_rfl
theorem houseFaults_c11 : (Rows.houseFaultsRow.recurses == Tryz.prog.recurses 3) = true := by kernel_rfl
theorem houseFaults_c12 : (Rows.houseFaultsRow.named == Tryz.prog.varsNamed 3) = true := by kernel_rfl
theorem houseFaults_c13 : (Rows.houseFaultsRow.maps == (Tryz.f3.params.toList ++ Rows.houseFaultsSpec.plain.varTypes Tryz.prog).any (Tryz.prog.mapsRec ·)) = true := by kernel_rfl
theorem houseFaults_c14 : (Rows.houseFaultsRow.ifaces == (Tryz.f3.params.toList ++ Rows.houseFaultsSpec.plain.varTypes Tryz.prog).any (Tryz.prog.ifacesRec ·)) = true := by kernel_rfl
theorem houseFaults_c15 : (Rows.houseFaultsRow.mapsOut == Tryz.prog.mapsAmong Tryz.f3.resultTypes.toList) = true := by kernel_rfl
theorem houseFaults_c16 : (Rows.houseFaultsRow.loops == (Tryz.f3.params.toList ++ Rows.houseFaultsSpec.plain.varTypes Tryz.prog).any (Tryz.prog.loopsFrom ·)) = true := by kernel_rfl
theorem houseFaults_c17 : (Rows.houseFaultsRow.wideKeys == (Tryz.f3.params.toList ++ Rows.houseFaultsSpec.plain.varTypes Tryz.prog ++ Tryz.f3.resultTypes.toList).any (Tryz.prog.wideKeysFrom ·)) = true := by kernel_rfl
theorem houseFaults_c18 : (Rows.houseFaultsSpec.vars.all (Tryz.prog.varReadable ·)) = true := by kernel_rfl
theorem houseFaults_c19 : (Tryz.f3.resultTypes.all (fun t => Tryz.prog.readableRec t && decide (t < Tryz.prog.types.size))) = true := by kernel_rfl
theorem houseFaults_c20 : (Rows.houseFaultsRow.ifacesOut == Tryz.f3.resultTypes.toList.any (Tryz.prog.ifacesRec ·)) = true := by kernel_rfl
theorem houseFaults_c21 : (Rows.houseFaultsRow.loopsOut == Tryz.f3.resultTypes.toList.any (Tryz.prog.loopsFrom ·)) = true := by kernel_rfl
theorem houseFaults_c22 : (Rows.houseFaultsRow.plainKeys == Tryz.prog.plainKeys) = true := by kernel_rfl
theorem houseFaults_c23 : (Rows.houseFaultsRow.shortTexts.isNone) = true := by kernel_rfl
theorem houseFaults_c26 : (Rows.houseFaultsRow.lifted == Tryz.prog.liftsFinal) = true := by kernel_rfl
theorem houseFaults_c27 : (Tryz.prog.make == some Rows.houseFaultsRow.make) = true := by kernel_rfl
theorem houseFaults_c29 : (Rows.houseFaultsRow.pinned == Rows.houseFaultsRow.pinnedBy) = true := by kernel_rfl
theorem houseFaults_c30 : (Rows.houseFaultsRow.veiled == (Tryz.f3.params.toList ++ Rows.houseFaultsSpec.plain.varTypes Tryz.prog ++ Tryz.f3.resultTypes.toList).any (Tryz.prog.veiledRec ·)) = true := by kernel_rfl
theorem houseFaults_c31 : (Rows.houseFaultsRow.veiledFits Tryz.prog Tryz.f3.params.toList (Tryz.f3.params.toList ++ Rows.houseFaultsSpec.plain.varTypes Tryz.prog ++ Tryz.f3.resultTypes.toList)) = true := by kernel_rfl
theorem houseFaults_closed : joinedFacts Tryz.prog 3 Tryz.f3 Rows.houseFaultsSpec Rows.houseFaultsRow = true := by
  rw [joinedFacts]
  exact (and_t (and_t (and_t (and_t (and_t (and_t (and_t (and_t (and_t (and_t (and_t (and_t (and_t (and_t (and_t (and_t (and_t (and_t (and_t (and_t (and_t (and_t (and_t (and_t (and_t (and_t (and_t (and_t (and_t (and_t (and_t houseFaults_c0 seat_laid) seat_mapsRowed) houseFaults_c3) houseFaults_c4) houseFaults_c5) seat_stops) houseFaults_c7) seat_stopKnobs) houseFaults_c9) houseFaults_c10) houseFaults_c11) houseFaults_c12) houseFaults_c13) houseFaults_c14) houseFaults_c15) houseFaults_c16) houseFaults_c17) houseFaults_c18) houseFaults_c19) houseFaults_c20) houseFaults_c21) houseFaults_c22) houseFaults_c23) seat_heard) seat_enter) houseFaults_c26) houseFaults_c27) (by kernel_rfl)) houseFaults_c29) houseFaults_c30) houseFaults_c31)
theorem houseFaults_named : Tryz.prog.funcNamed Rows.houseFaultsRow.func = some 3 := by kernel_rfl
theorem houseFaults_noInit : Tryz.prog.inits.idxOf? 3 = none := by kernel_rfl
end Go.Proofs.YtldjgpnbkbmgoaaGreatDoor
