/-
  The closed facts of a row, each by itself. Conditions: none.
-/
import Derived.Test.YtldjgpnbkbmgoaaGreatDoorHClosed
import Derived.ProofKit
namespace Go.Proofs.YtldjgpnbkbmgoaaGreatDoor
theorem houseBack_c0 : (Rows.houseBackRow.wf (OpenSpec.ofChange Rows.houseBackSpec)) = true := by kernel_rfl
theorem houseBack_c3 : (Tryz.f5.params.all (Tryz.prog.readableRec ·)) = true := by kernel_rfl
theorem houseBack_c4 : (namedTie Tryz.prog Rows.houseBackRow.named Rows.houseBackSpec.vars) = true := by kernel_rfl
theorem houseBack_c5 : (Rows.houseBackRow.stops == []) = true := by kernel_rfl
theorem houseBack_c7 : (Rows.houseBackRow.knobs == []) = true := by kernel_rfl
theorem houseBack_c9 : (Rows.houseBackRow.inPlace == Tryz.prog.inPlace 5) = true := by kernel_rfl
theorem houseBack_c10 : (Rows.houseBackRow.unfollowed == Tryz.prog.unfollowed 5) = true := by kernel_rfl
theorem houseBack_c11 : (Rows.houseBackRow.recurses == Tryz.prog.recurses 5) = true := by kernel_rfl
theorem houseBack_c12 : (Rows.houseBackRow.named == Tryz.prog.varsNamed 5) = true := by kernel_rfl
theorem houseBack_c13 : (Rows.houseBackRow.maps == (Tryz.f5.params.toList ++ Rows.houseBackSpec.plain.varTypes Tryz.prog).any (Tryz.prog.mapsRec ·)) = true := by kernel_rfl
theorem houseBack_c14 : (Rows.houseBackRow.ifaces == (Tryz.f5.params.toList ++ Rows.houseBackSpec.plain.varTypes Tryz.prog).any (Tryz.prog.ifacesRec ·)) = true := by kernel_rfl
theorem houseBack_c15 : (Rows.houseBackRow.mapsOut == Tryz.prog.mapsAmong Tryz.f5.resultTypes.toList) = true := by kernel_rfl
theorem houseBack_c16 : (Rows.houseBackRow.loops == (Tryz.f5.params.toList ++ Rows.houseBackSpec.plain.varTypes Tryz.prog).any (Tryz.prog.loopsFrom ·)) = true := by kernel_rfl
theorem houseBack_c17 : (Rows.houseBackRow.wideKeys == (Tryz.f5.params.toList ++ Rows.houseBackSpec.plain.varTypes Tryz.prog ++ Tryz.f5.resultTypes.toList).any (Tryz.prog.wideKeysFrom ·)) = true := by kernel_rfl
theorem houseBack_c18 : (Rows.houseBackSpec.vars.all (Tryz.prog.varReadable ·)) = true := by kernel_rfl
theorem houseBack_c19 : (Tryz.f5.resultTypes.all (fun t => Tryz.prog.readableRec t && decide (t < Tryz.prog.types.size))) = true := by kernel_rfl
theorem houseBack_c20 : (Rows.houseBackRow.ifacesOut == Tryz.f5.resultTypes.toList.any (Tryz.prog.ifacesRec ·)) = true := by kernel_rfl
theorem houseBack_c21 : (Rows.houseBackRow.loopsOut == Tryz.f5.resultTypes.toList.any (Tryz.prog.loopsFrom ·)) = true := by kernel_rfl
theorem houseBack_c22 : (Rows.houseBackRow.plainKeys == Tryz.prog.plainKeys) = true := by kernel_rfl
theorem houseBack_c23 : (Rows.houseBackRow.shortTexts.isNone) = true := by kernel_rfl
theorem houseBack_c26 : (Rows.houseBackRow.lifted == Tryz.prog.liftsFinal) = true := by kernel_rfl
theorem houseBack_c27 : (Tryz.prog.make == some Rows.houseBackRow.make) = true := by kernel_rfl
theorem houseBack_c29 : (Rows.houseBackRow.pinned == Rows.houseBackRow.pinnedBy) = true := by kernel_rfl
theorem houseBack_c30 : (Rows.houseBackRow.veiled == (Tryz.f5.params.toList ++ Rows.houseBackSpec.plain.varTypes Tryz.prog ++ Tryz.f5.resultTypes.toList).any (Tryz.prog.veiledRec ·)) = true := by kernel_rfl
theorem houseBack_c31 : (Rows.houseBackRow.veiledFits Tryz.prog Tryz.f5.params.toList (Tryz.f5.params.toList ++ Rows.houseBackSpec.plain.varTypes Tryz.prog ++ Tryz.f5.resultTypes.toList)) = true := by kernel_rfl
theorem houseBack_closed : joinedFacts Tryz.prog 5 Tryz.f5 Rows.houseBackSpec Rows.houseBackRow = true := by
  rw [joinedFacts]
  exact (and_t (and_t (and_t (and_t (and_t (and_t (and_t (and_t (and_t (and_t (and_t (and_t (and_t (and_t (and_t (and_t (and_t (and_t (and_t (and_t (and_t (and_t (and_t (and_t (and_t (and_t (and_t (and_t (and_t (and_t (and_t houseBack_c0 seat_laid) seat_mapsRowed) houseBack_c3) houseBack_c4) houseBack_c5) seat_stops) houseBack_c7) seat_stopKnobs) houseBack_c9) houseBack_c10) houseBack_c11) houseBack_c12) houseBack_c13) houseBack_c14) houseBack_c15) houseBack_c16) houseBack_c17) houseBack_c18) houseBack_c19) houseBack_c20) houseBack_c21) houseBack_c22) houseBack_c23) seat_heard) seat_enter) houseBack_c26) houseBack_c27) (by kernel_rfl)) houseBack_c29) houseBack_c30) houseBack_c31)
theorem houseBack_named : Tryz.prog.funcNamed Rows.houseBackRow.func = some 5 := by kernel_rfl
theorem houseBack_noInit : Tryz.prog.inits.idxOf? 5 = none := by kernel_rfl
end Go.Proofs.YtldjgpnbkbmgoaaGreatDoor
