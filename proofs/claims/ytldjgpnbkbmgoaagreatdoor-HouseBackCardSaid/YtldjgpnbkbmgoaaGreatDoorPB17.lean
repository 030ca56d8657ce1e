/-
  HouseBack: the law. Conditions: what 'known' gives is a premise here.
-/
import Derived.Test.YtldjgpnbkbmgoaaGreatDoorPB13
import Derived.Test.YtldjgpnbkbmgoaaGreatDoorPB16
set_option linter.unusedSimpArgs false
set_option linter.unusedVariables false
set_option maxRecDepth 100000
set_option maxHeartbeats 8000000
namespace Go.Proofs.YtldjgpnbkbmgoaaGreatDoor
open Go.RowKit Go.Lib
attribute [local go_sem ↓] load_req stop_req
theorem pa_jsl {w w' : World} {vs vi : Value} {ss : List Nat} {rs : List HRw} {xs : List HIt} (h1 : Own usC 1 49 w' w.heap.size vs ss) (h2 : Own hiC 29 62 w' w.heap.size vi rs) (hx : xsOf rs = xs) (hby : byOwn w w' rs)
    (hq : ∀ x ∈ xs, x.q.fits ∧ x.q.ib ∧ x.fits) (hs : ∀ s ∈ ss, s < 18446744073709551616) : JSl w' vs vi ss rs := by
  refine ⟨h1.sl, h2.sl, fun r hr => ?_, hs⟩
  obtain ⟨q1, q2, q3⟩ := hq r.x (by rw [← hx]; exact List.mem_map.2 ⟨r, hr, rfl⟩)
  exact ⟨(hby r hr).sl, q1, q2, q3⟩
theorem law_back (HKn : Knows) (vs vi : Value) (ss : List Nat) (rs : List HRw) (w : World) (h : JSl w vs vi ss rs) : Calls Tryz.prog 5 #[.agg (jC vs vi)] w (fun e w' => e = .returned (.bool true) ∧ Below w.heap.size w w') := by
  have HK := Lib.hid HKn
  have HJ0 := Lib.hid h
  have h1 := LP.start h
  obtain ⟨w1, hst1⟩ : ∃ w1, w.alloc (.cells (jC vs vi) 26) = w1 := ⟨_, rfl⟩
  rw [hst1] at h1
  have H1 := Lib.hid h1
  have HFW := Lib.hid (fun wx (hx : LP w wx vs vi ss rs) => few_ok vs vi ss rs wx hx.j.s hx.j.i)
  clear h1 h HKn
  cases hf : fewB ss rs
  · rw [hf] at HFW
    clear hf
    go_enter Tryz.func5, Tryz.ntmps5
    go_wp2_with (refine load_bx rfl 26 (.tmp 1) rfl w.heap.size rfl 26 (jC vs vi) _ H1.out.b Tryz.underlying26 rfl (job_size _ _) ?_)
    refine (HFW.out _ H1.out).mono ?_
    rintro e w2 ⟨rfl, hb⟩
    have H2 := Lib.hid (H1.out.to hb)
    clear hb
    go_wp2_with fail
    refine (HK.out _).mono ?_
    rintro e w3 ⟨rfl, hb⟩
    have H3 := Lib.hid (H2.out.to hb)
    clear hb
    go_wp2_with fail
    go_ret
    exact ⟨rfl, H3.out.bel⟩
  · rw [hf] at HFW
    have hrl := (fewB_iff.1 hf).1
    have HPR := Lib.hid (fun wx (hx : LP w wx vs vi ss rs) => hPrint_ok vs vi ss rs wx hx.j)
    unfold HPPost at HPR
    clear hf
    cases hj : jobOk ss (xsOf rs)
    · rw [hj] at HPR
      simp only [Bool.false_eq_true, if_false] at HPR
      clear hj
      go_enter Tryz.func5, Tryz.ntmps5
      go_wp2_with (refine load_bx rfl 26 (.tmp 1) rfl w.heap.size rfl 26 (jC vs vi) _ H1.out.b Tryz.underlying26 rfl (job_size _ _) ?_)
      refine (HFW.out _ H1.out).mono ?_
      rintro e w2 ⟨rfl, hb⟩
      have H2 := Lib.hid (H1.out.to hb)
      clear hb
      go_wp2_with (refine load_bx rfl 26 (.tmp 1) rfl w.heap.size rfl 26 (jC vs vi) _ H2.out.b Tryz.underlying26 rfl (job_size _ _) ?_)
      refine (HPR.out _ H2.out).mono ?_
      rintro e w3 ⟨rfl, hb⟩
      have H3 := Lib.hid (H2.out.to hb)
      clear hb
      go_wp2_with fail
      refine (HK.out _).mono ?_
      rintro e w4 ⟨rfl, hb⟩
      have H4 := Lib.hid (H3.out.to hb)
      clear hb
      go_wp2_with fail
      go_ret
      exact ⟨rfl, H4.out.bel⟩
    · rw [hj] at HPR
      simp only [if_true] at HPR
      obtain ⟨j1, j2, j3, j4, j5⟩ := jobOk_xs.1 hj
      have hsl := HJ0.out.sl
      have hxf : ∀ x ∈ xsOf rs, x.q.fits ∧ x.q.ib ∧ x.fits := fun x hx => by
        obtain ⟨r, hr, rfl⟩ := List.mem_map.1 hx
        have := HJ0.out.ok r hr
        exact ⟨this.q, this.ib, this.dr⟩
      have HXF := Lib.hid hxf
      have HSL := Lib.hid hsl
      have hpt := fun hl => parse_text hj hsl (fun x hx => (hxf x hx).2.2) hl
      have hXl : (jobT ss (xsOf rs)).length ≤ 140737488355328 := by
        rw [jobT_eq, List.length_append, secsT_len]
        have := itsT_len (xs := xsOf rs) (fun x hx => by
          obtain ⟨r, hr, rfl⟩ := List.mem_map.1 hx
          exact j5 r hr)
        have h2 : (xsOf rs).length = rs.length := by simp [xsOf]
        rw [h2] at this
        have h3 := Nat.mul_le_mul_left 30001 hrl
        omega
      obtain ⟨X, hX⟩ : ∃ X, X = jobT ss (xsOf rs) := ⟨_, rfl⟩
      rw [← hX] at HPR hXl hpt
      have hz := str_size X
      have HPa := Lib.hid (fun w => Parse_ok X w hXl)
      unfold PaPost at HPa
      clear hX hj j1 j2 j3 j4 j5 hsl hxf hrl
      by_cases hlong : 65536 < X.length
      · have hP : parse X = ⟨[], [], 2, 1⟩ := by unfold parse; rw [if_pos hlong]
        obtain ⟨P, hPe⟩ : ∃ P : PRes, P = ⟨[], [], 2, 1⟩ := ⟨_, rfl⟩
        rw [hP, ← hPe] at HPa
        have he : P.err = 2 := by rw [hPe]
        have hln : P.line = 1 := by rw [hPe]
        have hl' : (65536 : Int) < (X.length : Int) := by omega
        have HFC := Lib.hid (show fC P.err P.line = #[.int .i64 2, .int .i64 1, .int .i64 1] by rw [he, hln]; rfl)
        clear hP hPe hpt hlong he hln
        go_enter Tryz.func5, Tryz.ntmps5
        go_wp2_with (refine load_bx rfl 26 (.tmp 1) rfl w.heap.size rfl 26 (jC vs vi) _ H1.out.b Tryz.underlying26 rfl (job_size _ _) ?_)
        refine (HFW.out _ H1.out).mono ?_
        rintro e w2 ⟨rfl, hb⟩
        have H2 := Lib.hid (H1.out.to hb)
        clear hb
        go_wp2_with (refine load_bx rfl 26 (.tmp 1) rfl w.heap.size rfl 26 (jC vs vi) _ H2.out.b Tryz.underlying26 rfl (job_size _ _) ?_)
        refine (HPR.out _ H2.out).mono ?_
        rintro e w3 ⟨rfl, hb⟩
        have H3 := Lib.hid (H2.out.to hb)
        clear hb
        go_wp2_with fail
        refine (HPa.out _).mono ?_
        rintro e w4 ⟨vs4, vi4, rs4, rfl, ho1, ho2, hxs, hby, hb⟩
        have HO1 := Lib.hid ho1
        have HO2 := Lib.hid ho2
        have HXS := Lib.hid hxs
        have HBY := Lib.hid hby
        obtain ⟨A4, c4, rfl⟩ := ho1.form
        obtain ⟨B4, d4, rfl⟩ := ho2.form
        have HF4 := Lib.hid (FB.laid (H3.out.bel.trans (hb.mono H3.out.bel.size)) (.slice A4 P.ss.length c4) (.slice B4 rs4.length d4) P.err P.line)
        have HL4 := Lib.hid (lay0_j w4)
        have HM4 := Lib.hid (lay0_f w4)
        have HJ4 := Lib.hid (lay2_j w4 (.slice A4 P.ss.length c4) (.slice B4 rs4.length d4) P.err P.line)
        have HB4 := Lib.hid (lay2_below w4 (.slice A4 P.ss.length c4) (.slice B4 rs4.length d4) P.err P.line)
        have HZ4 := Lib.hid hb
        have hst4 : (w4.alloc (.cells (jC nilV nilV) 26)).alloc (.cells #[.int .i64 0, .int .i64 0, .int .i64 0] 31) = lay0 w4 := rfl
        clear ho1 ho2 hxs hby hb
        obtain ⟨w5, hw5⟩ : ∃ w5, lay2 w4 (.slice A4 P.ss.length c4) (.slice B4 rs4.length d4) P.err P.line = w5 := ⟨_, rfl⟩
        rw [hw5] at HF4 HJ4 HB4
        have HFB := Lib.hid (show Blk w5 (w4.heap.size + 1) 31 #[.int .i64 2, .int .i64 1, .int .i64 1] by rw [← HFC.out]; exact HF4.out.b)
        go_wp2_with (first
          | (refine wpList_store_row rfl 26 (.tmp 5) (.tmp 22) rfl w4.heap.size (jC (.slice A4 P.ss.length c4) (.slice B4 rs4.length d4)) rfl rfl 26 _ HL4.out (job_size _ _) rfl (jC_one _ _ _ _ _ _) ?_)
          | (refine wpList_store_row rfl 31 (.tmp 6) (.tmp 23) rfl (w4.heap.size + 1) (fC P.err P.line) rfl rfl 31 _ (HM4.out.farRow (by omega) _) (flt_size _ _) rfl (flt_one _ _) ?_)
          | (refine load_bx rfl 31 (.tmp 6) rfl (w4.heap.size + 1) rfl 31 #[.int .i64 2, .int .i64 1, .int .i64 1] _ HFB.out Tryz.underlying31 rfl (by kernel_rfl) ?_))
        refine (HK.out _).mono ?_
        rintro e w6 ⟨rfl, hb⟩
        have HW6 := Lib.hid (HF4.out.bel.trans (hb.mono HF4.out.bel.size))
        clear hb
        go_wp2_with fail
        go_ret
        exact ⟨rfl, HW6.out⟩
      · have hP := hpt (by omega)
        obtain ⟨P, hPe⟩ : ∃ P : PRes, P = ⟨ss, xsOf rs, 0, 0⟩ := ⟨_, rfl⟩
        rw [hP, ← hPe] at HPa
        have hl' : ¬ (65536 : Int) < (X.length : Int) := by omega
        have he : (P.err == 0) = true := by rw [hPe]; rfl
        have HPE := Lib.hid hPe
        clear hP hPe hpt hlong
        go_enter Tryz.func5, Tryz.ntmps5
        go_wp2_with (refine load_bx rfl 26 (.tmp 1) rfl w.heap.size rfl 26 (jC vs vi) _ H1.out.b Tryz.underlying26 rfl (job_size _ _) ?_)
        refine (HFW.out _ H1.out).mono ?_
        rintro e w2 ⟨rfl, hb⟩
        have H2 := Lib.hid (H1.out.to hb)
        clear hb
        go_wp2_with (refine load_bx rfl 26 (.tmp 1) rfl w.heap.size rfl 26 (jC vs vi) _ H2.out.b Tryz.underlying26 rfl (job_size _ _) ?_)
        refine (HPR.out _ H2.out).mono ?_
        rintro e w3 ⟨rfl, hb⟩
        have H3 := Lib.hid (H2.out.to hb)
        clear hb
        go_wp2_with fail
        refine (HPa.out _).mono ?_
        rintro e w4 ⟨vs4, vi4, rs4, rfl, ho1, ho2, hxs, hby, hb⟩
        have HO1 := Lib.hid ho1
        have HO2 := Lib.hid ho2
        have HXS := Lib.hid hxs
        have HBY := Lib.hid hby
        obtain ⟨A4, c4, rfl⟩ := ho1.form
        obtain ⟨B4, d4, rfl⟩ := ho2.form
        have HF4 := Lib.hid (FB.laid (H3.out.bel.trans (hb.mono H3.out.bel.size)) (.slice A4 P.ss.length c4) (.slice B4 rs4.length d4) P.err P.line)
        have HL4 := Lib.hid (lay0_j w4)
        have HM4 := Lib.hid (lay0_f w4)
        have HJ4 := Lib.hid (lay2_j w4 (.slice A4 P.ss.length c4) (.slice B4 rs4.length d4) P.err P.line)
        have HB4 := Lib.hid (lay2_below w4 (.slice A4 P.ss.length c4) (.slice B4 rs4.length d4) P.err P.line)
        have HZ4 := Lib.hid hb
        have hst4 : (w4.alloc (.cells (jC nilV nilV) 26)).alloc (.cells #[.int .i64 0, .int .i64 0, .int .i64 0] 31) = lay0 w4 := rfl
        clear ho1 ho2 hxs hby hb
        have HJS := Lib.hid (show JSl w4 (.slice A4 P.ss.length c4) (.slice B4 rs4.length d4) ss rs4 from pa_jsl (by have := HO1.out; rw [HPE.out] at this ⊢; exact this) HO2.out (by have := HXS.out; rw [HPE.out] at this; exact this) HBY.out HXF.out HSL.out)
        obtain ⟨w5, hw5⟩ : ∃ w5, lay2 w4 (.slice A4 P.ss.length c4) (.slice B4 rs4.length d4) P.err P.line = w5 := ⟨_, rfl⟩
        rw [hw5] at HF4 HJ4 HB4
        have H5 := Lib.hid ((H3.out.to HZ4.out).to HB4.out)
        have HJS5 := Lib.hid (HJS.out.below HB4.out)
        have HSM := Lib.hid (same_ok vs vi _ _ ss rs rs4 w5 H5.out.j HJS5.out (by have := HXS.out; rw [HPE.out] at this; exact this.symm))
        unfold BPost at HSM
        have d0 := HF4.out.err
        go_wp2_with (first
          | (refine wpList_store_row rfl 26 (.tmp 5) (.tmp 22) rfl w4.heap.size (jC (.slice A4 P.ss.length c4) (.slice B4 rs4.length d4)) rfl rfl 26 _ HL4.out (job_size _ _) rfl (jC_one _ _ _ _ _ _) ?_)
          | (refine wpList_store_row rfl 31 (.tmp 6) (.tmp 23) rfl (w4.heap.size + 1) (fC P.err P.line) rfl rfl 31 _ (HM4.out.farRow (by omega) _) (flt_size _ _) rfl (flt_one _ _) ?_)
          | (refine load_bx rfl 26 (.tmp 1) rfl w.heap.size rfl 26 (jC vs vi) _ H5.out.b Tryz.underlying26 rfl (job_size _ _) ?_)
          | (refine load_bx rfl 26 (.tmp 5) rfl w4.heap.size rfl 26 (jC (.slice A4 P.ss.length c4) (.slice B4 rs4.length d4)) _ HJ4.out Tryz.underlying26 rfl (job_size _ _) ?_))
        refine HSM.out.mono ?_
        rintro e w6 ⟨rfl, hb⟩
        have HW6 := Lib.hid (H5.out.bel.trans (hb.mono H5.out.bel.size))
        clear hb
        go_wp2_with fail
        refine (HK.out _).mono ?_
        rintro e w7 ⟨rfl, hb⟩
        have HW7 := Lib.hid (HW6.out.trans (hb.mono HW6.out.size))
        clear hb
        go_wp2_with fail
        go_ret
        exact ⟨rfl, HW7.out⟩
end Go.Proofs.YtldjgpnbkbmgoaaGreatDoor

