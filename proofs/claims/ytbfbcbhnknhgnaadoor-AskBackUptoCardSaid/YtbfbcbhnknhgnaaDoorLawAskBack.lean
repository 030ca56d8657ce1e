/-
  The law AskBack: what is written is read as it was, and what is read is written as it stood. Conditions: the text is at most 1048576 bytes long.
  PRINTED BY genaskback.py.
-/
import Derived.Test.YtbfbcbhnknhgnaaDoorLawApart
namespace Go.Proofs.YtbfbcbhnknhgnaaDoor
open Go.RowKit
attribute [local go_sem ↓] load_req stop_req

theorem line_bound {q : Req} (h : encOk q = true) : (lineQ q).length ≤ 20000 := by
  have ht := (enc_op h).2
  have hf := line_few q 1537 (by omega) (by omega)
  have hj := joinW_len 1537 _ hf.2
  have := hf.1
  show (joinW (lineW q)).length ≤ 20000
  omega
theorem read_cases (l : List UInt8) (hl : l.length ≤ 1048576) : (∃ z, readQ l = (z, 0) ∧ encOk z = true ∧ lineQ z = l ∧ z.fits) ∨ readQ l = (zeroR 0, 60) := by
  have hfit := readS_fit l
  unfold readQ
  split
  · rename_i h
    exact .inl ⟨_, rfl, h.2.1, h.2.2, hfit.ok, by have := hfit.tx; omega⟩
  · exact .inr rfl
set_option maxRecDepth 100000 in
set_option maxHeartbeats 8000000 in
theorem law_askback (q : Req) (hq : q.fits) (l : List UInt8) (w : World) (hl : l.length ≤ 1048576) : Calls Tryd.prog 3 #[.agg (rqC q), strV l] w (Holds w) := by
  have hb0 := Blk.new w 30 (rqC q)
  have hW1 := (Below.refl w.heap.size w).alloc (Nat.le_refl _) (.cells (rqC q) 30)
  obtain ⟨w1, hst1⟩ : ∃ w1, w.alloc (.cells (rqC q) 30) = w1 := ⟨_, rfl⟩
  rw [hst1] at hb0 hW1
  have HB0 := Lib.hid hb0
  have HW1 := Lib.hid hW1
  have HQ := Lib.hid hq
  have HL := Lib.hid hl
  have HC := Lib.hid (read_cases l hl)
  clear hb0 hW1 hq hl
  have l0 := loadReq_row HB0.out
  go_enter Tryd.func3, Tryd.ntmps3
  go_wp2_with fail
  refine (Line_ok q w1 HQ.out).mono ?_
  rintro e w2 ⟨rfl, hb2⟩
  have HB0 := Lib.hid (HB0.out.below hb2 HB0.out.lt)
  have HW2 := Lib.hid (HW1.out.trans (hb2.mono HW1.out.size))
  clear hb2 l0
  cases hoq : encOk q
  · rw [lineE_no hoq, lineT_no hoq]
    clear hoq
    go_wp2_with fail
    refine (Read_ok l _ (by have := HL.out; omega)).mono ?_
    rintro e w7 ⟨rfl, hb7⟩
    have HB0 := Lib.hid (HB0.out.below hb7 HB0.out.lt)
    have HW7 := Lib.hid (HW2.out.trans (hb7.mono HW2.out.size))
    clear hb7
    rcases HC.out with ⟨z, hz, hoz, hlz, hfz⟩ | hz
    · rw [hz]
      have HOZ := Lib.hid hoz
      have HLZ := Lib.hid hlz
      have HFZ := Lib.hid hfz
      clear hz hoz hlz hfz
      have HN := Lib.hid (Blk.new w7 30 zeroC)
      have HWA := Lib.hid (HW7.out.alloc HW7.out.size (.cells zeroC 30))
      have HBA := Lib.hid (HB0.out.alloc (.cells zeroC 30))
      have hltw7 := HB0.out.lt
      have hszw7 := HW7.out.size
      obtain ⟨w7a, hstw7a⟩ : ∃ x, w7.alloc (.cells zeroC 30) = x := ⟨_, rfl⟩
      rw [hstw7a] at HN HWA HBA
      have HNR := Lib.hid (HN.out.row (rqC z))
      have HWR := Lib.hid (below_setRow HWA.out (g := w7.heap.size) hszw7 (rqC z))
      have HB0 := Lib.hid (HBA.out.farRow (Nat.ne_of_lt hltw7) (rqC z))
      obtain ⟨w7b, hstw7b⟩ : ∃ x, w7a.setRow w7.heap.size (rqC z) = x := ⟨_, rfl⟩
      rw [hstw7b] at HNR HWR HB0
      clear HBA hltw7 hszw7
      have l0 := loadReq_row HNR.out
      go_wp2_with (refine wpList_store_row rfl 30 (.tmp 9) (.tmp 35) rfl w7.heap.size (rqC z) rfl rfl 30 zeroC HN.out (rq_size _) rfl (rq_one _) ?_)
      refine (Line_ok z _ HFZ.out).mono ?_
      rintro e w8 ⟨rfl, hb8⟩
      have HW8 := Lib.hid (HWR.out.trans (hb8.mono HWR.out.size))
      clear hb8
      rw [lineE_ok HOZ.out, lineT_ok HOZ.out, HLZ.out]
      go_wp2_with fail
      refine (aknown_ok _).mono ?_
      rintro e w9 ⟨rfl, hb9⟩
      have HW9 := Lib.hid (HW8.out.trans (hb9.mono HW8.out.size))
      clear hb9
      go_wp2_with fail
      go_ret
      exact ⟨rfl, HW9.out⟩
    · rw [hz]
      clear hz
      have HN := Lib.hid (Blk.new w7 30 zeroC)
      have HWA := Lib.hid (HW7.out.alloc HW7.out.size (.cells zeroC 30))
      have HBA := Lib.hid (HB0.out.alloc (.cells zeroC 30))
      have hltw7 := HB0.out.lt
      have hszw7 := HW7.out.size
      obtain ⟨w7a, hstw7a⟩ : ∃ x, w7.alloc (.cells zeroC 30) = x := ⟨_, rfl⟩
      rw [hstw7a] at HN HWA HBA
      have HNR := Lib.hid (HN.out.row (rqC (zeroR 0)))
      have HWR := Lib.hid (below_setRow HWA.out (g := w7.heap.size) hszw7 (rqC (zeroR 0)))
      have HB0 := Lib.hid (HBA.out.farRow (Nat.ne_of_lt hltw7) (rqC (zeroR 0)))
      obtain ⟨w7b, hstw7b⟩ : ∃ x, w7a.setRow w7.heap.size (rqC (zeroR 0)) = x := ⟨_, rfl⟩
      rw [hstw7b] at HNR HWR HB0
      clear HBA hltw7 hszw7
      go_wp2_with (refine wpList_store_row rfl 30 (.tmp 9) (.tmp 35) rfl w7.heap.size (rqC (zeroR 0)) rfl rfl 30 zeroC HN.out (rq_size _) rfl (rq_one _) ?_)
      refine (aknown_ok _).mono ?_
      rintro e w9 ⟨rfl, hb9⟩
      have HW9 := Lib.hid (HWR.out.trans (hb9.mono HWR.out.size))
      clear hb9
      go_wp2_with fail
      go_ret
      exact ⟨rfl, HW9.out⟩
  · rw [lineE_ok hoq, lineT_ok hoq]
    have HRL := Lib.hid (read_line hoq)
    have HLB := Lib.hid (line_bound hoq)
    clear hoq
    go_wp2_with fail
    refine (Read_ok (lineQ q) _ (by have := HLB.out; omega)).mono ?_
    rintro e w3 ⟨rfl, hb3⟩
    have HB0 := Lib.hid (HB0.out.below hb3 HB0.out.lt)
    have HW3 := Lib.hid (HW2.out.trans (hb3.mono HW2.out.size))
    clear hb3
    rw [HRL.out]
    have HN := Lib.hid (Blk.new w3 30 zeroC)
    have HWA := Lib.hid (HW3.out.alloc HW3.out.size (.cells zeroC 30))
    have HBA := Lib.hid (HB0.out.alloc (.cells zeroC 30))
    have hltw3 := HB0.out.lt
    have hszw3 := HW3.out.size
    obtain ⟨w3a, hstw3a⟩ : ∃ x, w3.alloc (.cells zeroC 30) = x := ⟨_, rfl⟩
    rw [hstw3a] at HN HWA HBA
    have HNR := Lib.hid (HN.out.row (rqC q))
    have HWR := Lib.hid (below_setRow HWA.out (g := w3.heap.size) hszw3 (rqC q))
    have HB0 := Lib.hid (HBA.out.farRow (Nat.ne_of_lt hltw3) (rqC q))
    obtain ⟨w3b, hstw3b⟩ : ∃ x, w3a.setRow w3.heap.size (rqC q) = x := ⟨_, rfl⟩
    rw [hstw3b] at HNR HWR HB0
    clear HBA hltw3 hszw3
    have l0 := loadReq_row HNR.out
    have l1 := loadReq_row HB0.out
    have hqq := reqEq_refl q
    go_wp2_with (refine wpList_store_row rfl 30 (.tmp 7) (.tmp 23) rfl w3.heap.size (rqC q) rfl rfl 30 zeroC HN.out (rq_size _) rfl (rq_one _) ?_)
    clear l0 l1
    have HWT := Lib.hid HWR.out
    clear HN HNR HWA HWR
    refine (Read_ok l _ (by have := HL.out; omega)).mono ?_
    rintro e w7 ⟨rfl, hb7⟩
    have HB0 := Lib.hid (HB0.out.below hb7 HB0.out.lt)
    have HW7 := Lib.hid (HWT.out.trans (hb7.mono HWT.out.size))
    clear hb7
    rcases HC.out with ⟨z, hz, hoz, hlz, hfz⟩ | hz
    · rw [hz]
      have HOZ := Lib.hid hoz
      have HLZ := Lib.hid hlz
      have HFZ := Lib.hid hfz
      clear hz hoz hlz hfz
      have HN := Lib.hid (Blk.new w7 30 zeroC)
      have HWA := Lib.hid (HW7.out.alloc HW7.out.size (.cells zeroC 30))
      have HBA := Lib.hid (HB0.out.alloc (.cells zeroC 30))
      have hltw7 := HB0.out.lt
      have hszw7 := HW7.out.size
      obtain ⟨w7a, hstw7a⟩ : ∃ x, w7.alloc (.cells zeroC 30) = x := ⟨_, rfl⟩
      rw [hstw7a] at HN HWA HBA
      have HNR := Lib.hid (HN.out.row (rqC z))
      have HWR := Lib.hid (below_setRow HWA.out (g := w7.heap.size) hszw7 (rqC z))
      have HB0 := Lib.hid (HBA.out.farRow (Nat.ne_of_lt hltw7) (rqC z))
      obtain ⟨w7b, hstw7b⟩ : ∃ x, w7a.setRow w7.heap.size (rqC z) = x := ⟨_, rfl⟩
      rw [hstw7b] at HNR HWR HB0
      clear HBA hltw7 hszw7
      have l0 := loadReq_row HNR.out
      go_wp2_with (refine wpList_store_row rfl 30 (.tmp 9) (.tmp 35) rfl w7.heap.size (rqC z) rfl rfl 30 zeroC HN.out (rq_size _) rfl (rq_one _) ?_)
      refine (Line_ok z _ HFZ.out).mono ?_
      rintro e w8 ⟨rfl, hb8⟩
      have HW8 := Lib.hid (HWR.out.trans (hb8.mono HWR.out.size))
      clear hb8
      rw [lineE_ok HOZ.out, lineT_ok HOZ.out, HLZ.out]
      go_wp2_with fail
      refine (aknown_ok _).mono ?_
      rintro e w9 ⟨rfl, hb9⟩
      have HW9 := Lib.hid (HW8.out.trans (hb9.mono HW8.out.size))
      clear hb9
      go_wp2_with fail
      go_ret
      exact ⟨rfl, HW9.out⟩
    · rw [hz]
      clear hz
      have HN := Lib.hid (Blk.new w7 30 zeroC)
      have HWA := Lib.hid (HW7.out.alloc HW7.out.size (.cells zeroC 30))
      have HBA := Lib.hid (HB0.out.alloc (.cells zeroC 30))
      have hltw7 := HB0.out.lt
      have hszw7 := HW7.out.size
      obtain ⟨w7a, hstw7a⟩ : ∃ x, w7.alloc (.cells zeroC 30) = x := ⟨_, rfl⟩
      rw [hstw7a] at HN HWA HBA
      have HNR := Lib.hid (HN.out.row (rqC (zeroR 0)))
      have HWR := Lib.hid (below_setRow HWA.out (g := w7.heap.size) hszw7 (rqC (zeroR 0)))
      have HB0 := Lib.hid (HBA.out.farRow (Nat.ne_of_lt hltw7) (rqC (zeroR 0)))
      obtain ⟨w7b, hstw7b⟩ : ∃ x, w7a.setRow w7.heap.size (rqC (zeroR 0)) = x := ⟨_, rfl⟩
      rw [hstw7b] at HNR HWR HB0
      clear HBA hltw7 hszw7
      go_wp2_with (refine wpList_store_row rfl 30 (.tmp 9) (.tmp 35) rfl w7.heap.size (rqC (zeroR 0)) rfl rfl 30 zeroC HN.out (rq_size _) rfl (rq_one _) ?_)
      refine (aknown_ok _).mono ?_
      rintro e w9 ⟨rfl, hb9⟩
      have HW9 := Lib.hid (HWR.out.trans (hb9.mono HWR.out.size))
      clear hb9
      go_wp2_with fail
      go_ret
      exact ⟨rfl, HW9.out⟩
end Go.Proofs.YtbfbcbhnknhgnaaDoor
