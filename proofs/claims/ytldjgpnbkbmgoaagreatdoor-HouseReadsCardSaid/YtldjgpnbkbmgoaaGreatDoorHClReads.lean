/-
  The closed facts of a row, each by itself. Conditions: none.
-/
import Derived.Test.YtldjgpnbkbmgoaaGreatDoorHClosed
import Derived.ProofKit
namespace Go.Proofs.YtldjgpnbkbmgoaaGreatDoor
theorem houseReads_c0 : (Rows.houseReadsRow.wf (OpenSpec.ofChange Rows.houseReadsSpec)) = true := by kernel_rfl
theorem houseReads_c3 : (Tryz.f6.params.all (Tryz.prog.readableRec ·)) = true := by kernel_rfl
theorem houseReads_c4 : (namedTie Tryz.prog Rows.houseReadsRow.named Rows.houseReadsSpec.vars) = true := by kernel_rfl
theorem houseReads_c5 : (Rows.houseReadsRow.stops == []) = true := by kernel_rfl
theorem houseReads_c7 : (Rows.houseReadsRow.knobs == []) = true := by kernel_rfl
theorem houseReads_c9 : (Rows.houseReadsRow.inPlace == Tryz.prog.inPlace 6) = true := by kernel_rfl
theorem houseReads_c10 : (Rows.houseReadsRow.unfollowed == Tryz.prog.unfollowed 6) = true := by kernel_rfl
theorem houseReads_c11 : (Rows.houseReadsRow.recurses == Tryz.prog.recurses 6) = true := by kernel_rfl
theorem houseReads_c12 : (Rows.houseReadsRow.named == Tryz.prog.varsNamed 6) = true := by kernel_rfl
theorem houseReads_c13 : (Rows.houseReadsRow.maps == (Tryz.f6.params.toList ++ Rows.houseReadsSpec.plain.varTypes Tryz.prog).any (Tryz.prog.mapsRec ·)) = true := by kernel_rfl
theorem houseReads_c14 : (Rows.houseReadsRow.ifaces == (Tryz.f6.params.toList ++ Rows.houseReadsSpec.plain.varTypes Tryz.prog).any (Tryz.prog.ifacesRec ·)) = true := by kernel_rfl
theorem houseReads_c15 : (Rows.houseReadsRow.mapsOut == Tryz.prog.mapsAmong Tryz.f6.resultTypes.toList) = true := by kernel_rfl
theorem houseReads_c16 : (Rows.houseReadsRow.loops == (Tryz.f6.params.toList ++ Rows.houseReadsSpec.plain.varTypes Tryz.prog).any (Tryz.prog.loopsFrom ·)) = true := by kernel_rfl
theorem houseReads_c17 : (Rows.houseReadsRow.wideKeys == (Tryz.f6.params.toList ++ Rows.houseReadsSpec.plain.varTypes Tryz.prog ++ Tryz.f6.resultTypes.toList).any (Tryz.prog.wideKeysFrom ·)) = true := by kernel_rfl
theorem houseReads_c18 : (Rows.houseReadsSpec.vars.all (Tryz.prog.varReadable ·)) = true := by kernel_rfl
theorem houseReads_c19 : (Tryz.f6.resultTypes.all (fun t => Tryz.prog.readableRec t && decide (t < Tryz.prog.types.size))) = true := by kernel_rfl
theorem houseReads_c20 : (Rows.houseReadsRow.ifacesOut == Tryz.f6.resultTypes.toList.any (Tryz.prog.ifacesRec ·)) = true := by kernel_rfl
theorem houseReads_c21 : (Rows.houseReadsRow.loopsOut == Tryz.f6.resultTypes.toList.any (Tryz.prog.loopsFrom ·)) = true := by kernel_rfl
theorem houseReads_c22 : (Rows.houseReadsRow.plainKeys == Tryz.prog.plainKeys) = true := by kernel_rfl
theorem houseReads_c23 : (Rows.houseReadsRow.shortTexts.isNone) = true := by kernel_rfl
theorem houseReads_c26 : (Rows.houseReadsRow.lifted == Tryz.prog.liftsFinal) = true := by kernel_rfl
theorem houseReads_c27 : (Tryz.prog.make == some Rows.houseReadsRow.make) = true := by kernel_rfl
theorem houseReads_c29 : (Rows.houseReadsRow.pinned == Rows.houseReadsRow.pinnedBy) = true := by kernel_rfl
theorem houseReads_c30 : (Rows.houseReadsRow.veiled == (Tryz.f6.params.toList ++ Rows.houseReadsSpec.plain.varTypes Tryz.prog ++ Tryz.f6.resultTypes.toList).any (Tryz.prog.veiledRec ·)) = true := by kernel_rfl
theorem houseReads_c31 : (Rows.houseReadsRow.veiledFits Tryz.prog Tryz.f6.params.toList (Tryz.f6.params.toList ++ Rows.houseReadsSpec.plain.varTypes Tryz.prog ++ Tryz.f6.resultTypes.toList)) = true := by kernel_rfl
theorem houseReads_closed : joinedFacts Tryz.prog 6 Tryz.f6 Rows.houseReadsSpec Rows.houseReadsRow = true := by
  rw [joinedFacts]
  exact (and_t (and_t (and_t (and_t (and_t (and_t (and_t (and_t (and_t (and_t (and_t (and_t (and_t (and_t (and_t (and_t (and_t (and_t (and_t (and_t (and_t (and_t (and_t (and_t (and_t (and_t (and_t (and_t (and_t (and_t (and_t houseReads_c0 seat_laid) seat_mapsRowed) houseReads_c3) houseReads_c4) houseReads_c5) seat_stops) houseReads_c7) seat_stopKnobs) houseReads_c9) houseReads_c10) houseReads_c11) houseReads_c12) houseReads_c13) houseReads_c14) houseReads_c15) houseReads_c16) houseReads_c17) houseReads_c18) houseReads_c19) houseReads_c20) houseReads_c21) houseReads_c22) houseReads_c23) seat_heard) seat_enter) houseReads_c26) houseReads_c27) (by kernel_rfl)) houseReads_c29) houseReads_c30) houseReads_c31)
theorem houseReads_named : Tryz.prog.funcNamed Rows.houseReadsRow.func = some 6 := by kernel_rfl
theorem houseReads_noInit : Tryz.prog.inits.idxOf? 6 = none := by kernel_rfl
end Go.Proofs.YtldjgpnbkbmgoaaGreatDoor
