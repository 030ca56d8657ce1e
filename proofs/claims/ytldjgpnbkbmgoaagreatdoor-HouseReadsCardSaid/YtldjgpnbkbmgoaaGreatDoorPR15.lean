/-
  What the fixed calls of layer 29 give: 'known' answers true. Conditions: none.
-/
import Derived.Test.YtldjgpnbkbmgoaaGreatDoorPR14
set_option linter.unusedSimpArgs false
set_option linter.unusedVariables false
set_option maxRecDepth 100000
set_option maxHeartbeats 8000000
namespace Go.Proofs.YtldjgpnbkbmgoaaGreatDoor
open Ev Go.RowKit Go.Lib
attribute [local go_sem ↓] load_req stop_req
theorem results_tmp_cell {P : Program} {fn : Func} {p q : Tmp} {ty : TypeId} (h : fn.results = #[.tmp q, .cell p ty]) (tmps : Array Value) (w : World) (g : Nat) (t : TypeId) (cs : Array Value) (fr : Nat × Nat) (d : TypeDesc) (v : Value) (hv : tmps.getD q undef = v)
    (hp : tmps.getD p undef = .pointer (some ⟨g, 0, none⟩)) (hg : w.heap[g]? = some (.cells cs t fr))
    (hu : P.underlying ty = some d) (hd : (match d with | .struct _ | .array _ _ => true | _ => false) = true) (hi : (P.info? ty).map (·.size) = some cs.size) :
    (results fn tmps).run P w = .ok (.tuple #[v, .agg cs]) w := by
  have e1 : tmps[p]?.getD undef = .pointer (some ⟨g, 0, none⟩) := by simpa using hp
  have e2 : tmps[q]?.getD undef = v := by simpa using hv
  simp [results, h, e1, e2, asAddr, run_loadVar_row w g t ty cs fr d hg hu hd hi]
theorem run_gen (T OUT : List UInt8) (P : PRes) (w : World) (hP : ∀ w, Calls Tryz.prog 8 #[strV T] w (PaPost w P)) (h0 : P.err = 0)
    (hPL : ∀ (B : Nat) (vs vi : Value) (rs : List HRw) (w : World), Own usC 1 49 w B vs P.ss → Own hiC 29 62 w B vi rs → xsOf rs = P.xs → Calls Tryz.prog 32 #[.agg (jC vs vi)] w fun e w' => e = .returned (.tuple #[strV OUT, .int .i64 0]) ∧ Below B w w') :
    Calls Tryz.prog 17 #[strV T] w fun e w' => e = .returned (.tuple #[strV OUT, .agg (fC 0 0)]) ∧ Below w.heap.size w w' := by
  have HP1 := Lib.hid hP
  unfold PaPost at HP1
  have HPL := Lib.hid hPL
  have k0 : (P.err != 0) = false := by simp [h0]
  have hf0 := Blk.new w 31 (fC 0 0)
  have hW0 := (Below.refl w.heap.size w).alloc (Nat.le_refl _) (.cells (fC 0 0) 31)
  obtain ⟨w0, hst0⟩ : ∃ w0, w.alloc (.cells (fC 0 0) 31) = w0 := ⟨_, rfl⟩
  have hst0' : w.alloc (.cells #[.int .i64 0, .int .i64 0, .int .i64 0] 31) = w0 := hst0
  rw [hst0] at hf0 hW0
  have HF0 := Lib.hid hf0
  have HW0 := Lib.hid hW0
  clear hf0 hW0 hst0 hP hPL h0
  go_enter Tryz.func17, Tryz.ntmps17
  go_wp2_with fail
  refine (HP1.out _).mono ?_
  rintro e w1 ⟨vs1, vi1, rs1, rfl, ho1, ho2, hxs, -, hb⟩
  have HO1 := Lib.hid ho1
  have HO2 := Lib.hid ho2
  have HXS := Lib.hid hxs
  obtain ⟨A1, c1, rfl⟩ := ho1.form
  obtain ⟨B1, d1, rfl⟩ := ho2.form
  have HF1 := Lib.hid (FB.laid (w := w0) hb (.slice A1 P.ss.length c1) (.slice B1 rs1.length d1) P.err P.line)
  have HL1 := Lib.hid (lay0_j w1)
  have HM1 := Lib.hid (lay0_f w1)
  have HJ1 := Lib.hid (lay2_j w1 (.slice A1 P.ss.length c1) (.slice B1 rs1.length d1) P.err P.line)
  have HB2 := Lib.hid (lay2_below w1 (.slice A1 P.ss.length c1) (.slice B1 rs1.length d1) P.err P.line)
  have HZ0 := Lib.hid hb
  have hst1 : (w1.alloc (.cells (jC nilV nilV) 26)).alloc (.cells #[.int .i64 0, .int .i64 0, .int .i64 0] 31) = lay0 w1 := rfl
  have d0 := HF1.out.err
  obtain ⟨w2, hw2⟩ : ∃ w2, lay2 w1 (.slice A1 P.ss.length c1) (.slice B1 rs1.length d1) P.err P.line = w2 := ⟨_, rfl⟩
  rw [hw2] at HF1 HJ1 HB2 d0
  have HO1b := Lib.hid (HO1.out.below HB2.out)
  have HO2b := Lib.hid (HO2.out.below HB2.out)
  have HPL2 := Lib.hid (fun h1 h2 => HPL.out w0.heap.size (.slice A1 P.ss.length c1) (.slice B1 rs1.length d1) rs1 w2 h1 h2 HXS.out)
  clear ho1 ho2 hxs hb
  go_wp2_with (first
    | (refine wpList_store_row rfl 26 (.tmp 4) (.tmp 11) rfl w1.heap.size (jC (.slice A1 P.ss.length c1) (.slice B1 rs1.length d1)) rfl rfl 26 _ HL1.out (job_size _ _) rfl (jC_one _ _ _ _ _ _) ?_)
    | (refine wpList_store_row rfl 31 (.tmp 5) (.tmp 12) rfl (w1.heap.size + 1) (fC P.err P.line) rfl rfl 31 _ (HM1.out.farRow (by omega) _) (flt_size _ _) rfl (flt_one _ _) ?_)
    | (refine load_bx rfl 26 (.tmp 4) rfl w1.heap.size rfl 26 (jC (.slice A1 P.ss.length c1) (.slice B1 rs1.length d1)) _ HJ1.out Tryz.underlying26 rfl (job_size _ _) ?_))
  refine (HPL2.out HO1b.out HO2b.out).mono ?_
  rintro e w3 ⟨rfl, hb⟩
  have hlt0 := HF0.out.lt
  have HF3 := Lib.hid (((HF0.out.below HZ0.out hlt0).below HB2.out (by have := HZ0.out.size; omega)).below hb hlt0)
  have HW3 := Lib.hid (((HW0.out.trans (HZ0.out.mono HW0.out.size)).trans (HB2.out.mono (by have := HZ0.out.size; have := HW0.out.size; omega))).trans (hb.mono HW0.out.size))
  clear hb
  go_wp2_with (refine wpList_store_row rfl 31 (.tmp 3) (.tmp 23) rfl w.heap.size (fC 0 0) rfl rfl 31 _ HF3.out (flt_size _ _) rfl (flt_one _ _) ?_)
  refine bodyPost_ret (results_tmp_cell rfl _ _ w.heap.size 31 (fC 0 0) (0, 0) _ _ rfl rfl (HF3.out.row _) Tryz.underlying31 rfl (flt_size _ _)) rfl ?_
  exact ⟨rfl, below_setRow HW3.out (Nat.le_refl _) _⟩
theorem run_known (w : World) : Calls Tryz.prog 17 #[strV kT1] w fun e w' => e = .returned (.tuple #[strV kOut, .agg (fC 0 0)]) ∧ Below w.heap.size w w' := by
  refine run_gen kT1 kOut ⟨[9], [kX], 0, 0⟩ w (fun w => ?_) rfl fun B vs vi rs w h1 h2 hx => ?_
  · have h := Parse_ok kT1 w (by decide)
    rw [k_parse1] at h
    exact h
  · have hl := congrArg List.length hx
    simp only [xsOf, List.length_map, List.length_cons, List.length_nil] at hl
    obtain ⟨r, rfl⟩ := List.length_eq_one_iff.1 hl
    exact play_known B vs vi r w h1 h2 (List.cons.inj hx).1
theorem known29_ok (w : World) : Calls Tryz.prog 7 #[] w (fun e w' => e = .returned (.bool true) ∧ Below w.heap.size w w') := by
  have HR := Lib.hid run_known
  obtain ⟨OUT, hO⟩ : ∃ T, T = kOut := ⟨_, rfl⟩
  rw [← hO] at HR
  have HO := Lib.hid hO
  clear hO
  obtain ⟨P, hPe⟩ : ∃ P : PRes, P = ⟨[], [], 60, 2⟩ := ⟨_, rfl⟩
  have HP := Lib.hid (fun w => (show Calls Tryz.prog 8 #[strV kT2] w (PaPost w P) by
    have h := Parse_ok kT2 w (by decide)
    rw [k_parse2, ← hPe] at h
    exact h))
  have HPe := Lib.hid hPe
  clear hPe
  unfold PaPost at HP
  go_enter Tryz.func7, Tryz.ntmps7
  go_wp2_with fail
  refine (show Calls Tryz.prog 17 #[_] _ _ from HR.out _).mono ?_
  rintro e w1 ⟨rfl, hb⟩
  have hf0 := Blk.new w1 31 (fC 0 0)
  have hW0 := hb.alloc hb.size (.cells (fC 0 0) 31)
  obtain ⟨w2, hst2⟩ : ∃ w2, w1.alloc (.cells (fC 0 0) 31) = w2 := ⟨_, rfl⟩
  have hst2' : w1.alloc (.cells #[.int .i64 0, .int .i64 0, .int .i64 0] 31) = w2 := hst2
  rw [hst2] at hf0 hW0
  have HF0 := Lib.hid hf0
  have HR0 := Lib.hid (hf0.row (fC 0 0))
  have HW0 := Lib.hid (below_setRow hW0 hb.size (fC 0 0))
  obtain ⟨w3, hst3⟩ : ∃ w3, w2.setRow w1.heap.size (fC 0 0) = w3 := ⟨_, rfl⟩
  rw [hst3] at HR0 HW0
  clear hf0 hW0 hb hst2
  go_wp2_with (refine wpList_store_row rfl 31 (.tmp 2) (.tmp 8) rfl w1.heap.size (fC 0 0) rfl rfl 31 _ HF0.out (flt_size _ _) rfl (flt_one _ _) ?_)
  refine (show Calls Tryz.prog 8 #[_] _ _ from HP.out _).mono ?_
  rintro e w4 ⟨vs4, vi4, rs4, rfl, ho1, ho2, hxs, hby, hb⟩
  have HO1 := Lib.hid ho1
  have HO2 := Lib.hid ho2
  have HXS := Lib.hid hxs
  have HBY := Lib.hid hby
  obtain ⟨A4, c4, rfl⟩ := ho1.form
  obtain ⟨B4, d4, rfl⟩ := ho2.form
  have HF4 := Lib.hid (FB.laid (HW0.out.trans (hb.mono HW0.out.size)) (.slice A4 P.ss.length c4) (.slice B4 rs4.length d4) P.err P.line)
  have HL4 := Lib.hid (lay0_j w4)
  have HM4 := Lib.hid (lay0_f w4)
  have HJ4 := Lib.hid (lay2_j w4 (.slice A4 P.ss.length c4) (.slice B4 rs4.length d4) P.err P.line)
  have HB4 := Lib.hid (lay2_below w4 (.slice A4 P.ss.length c4) (.slice B4 rs4.length d4) P.err P.line)
  have HZ4 := Lib.hid hb
  have hst4 : (w4.alloc (.cells (jC nilV nilV) 26)).alloc (.cells #[.int .i64 0, .int .i64 0, .int .i64 0] 31) = lay0 w4 := rfl
  clear ho1 ho2 hxs hby hb
  have HFC := Lib.hid (show fC P.err P.line = #[.int .i64 60, .int .i64 2, .int .i64 1] by rw [HPe.out]; rfl)
  obtain ⟨w5, hw5⟩ : ∃ w5, lay2 w4 (.slice A4 P.ss.length c4) (.slice B4 rs4.length d4) P.err P.line = w5 := ⟨_, rfl⟩
  rw [hw5] at HF4 HJ4 HB4
  have HFB := Lib.hid (show Blk w5 (w4.heap.size + 1) 31 #[.int .i64 60, .int .i64 2, .int .i64 1] by rw [← HFC.out]; exact HF4.out.b)
  have hlt3 := HR0.out.lt
  have d0 : w5.cell? ⟨w1.heap.size, 0, none⟩ = some (.int .i64 0) := ((HR0.out.below HZ4.out hlt3).below HB4.out (Nat.lt_of_lt_of_le hlt3 HZ4.out.size)).is 0 rfl
  have x0 := HFB.out.is 0 (a := .int .i64 60) rfl
  have x1 := HFB.out.is 1 (a := .int .i64 2) rfl
  have x2 := HFB.out.is 2 (a := .int .i64 1) rfl
  have hO2 : OUT = [116, 111, 108, 100, 32, 110, 111, 110, 101, 10, 116, 101, 110, 97, 110, 116, 32, 48, 32, 49, 32, 48, 10, 115, 116, 114, 97, 121, 115, 32, 48, 10] := by rw [HO.out]; rfl
  clear hlt3
  go_wp2_with (first
    | (refine wpList_store_row rfl 26 (.tmp 3) (.tmp 11) rfl w4.heap.size (jC (.slice A4 P.ss.length c4) (.slice B4 rs4.length d4)) rfl rfl 26 _ HL4.out (job_size _ _) rfl (jC_one _ _ _ _ _ _) ?_)
    | (refine wpList_store_row rfl 31 (.tmp 4) (.tmp 12) rfl (w4.heap.size + 1) (fC P.err P.line) rfl rfl 31 _ (HM4.out.farRow (by omega) _) (flt_size _ _) rfl (flt_one _ _) ?_)
    | (refine load_bx rfl 31 (.tmp 4) rfl (w4.heap.size + 1) rfl 31 #[.int .i64 60, .int .i64 2, .int .i64 1] _ HFB.out Tryz.underlying31 rfl (by kernel_rfl) ?_))
  go_ret
  exact ⟨rfl, HF4.out.bel⟩
end Go.Proofs.YtldjgpnbkbmgoaaGreatDoor

