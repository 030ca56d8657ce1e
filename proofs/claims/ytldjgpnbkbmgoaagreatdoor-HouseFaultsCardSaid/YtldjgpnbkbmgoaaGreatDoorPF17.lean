/-
  HouseFaults: the law. Conditions: what 'known' gives is a premise here.
-/
import Derived.Test.YtldjgpnbkbmgoaaGreatDoorPF16
import Derived.Test.YtldjgpnbkbmgoaaGreatDoorPF13
set_option linter.unusedSimpArgs false
set_option linter.unusedVariables false
set_option maxRecDepth 100000
set_option maxHeartbeats 8000000
namespace Go.Proofs.YtldjgpnbkbmgoaaGreatDoor
open Go.RowKit Go.Lib
attribute [local go_sem ↓] load_req stop_req
theorem lines_q (s : List UInt8) (w : World) (hl : s.length ≤ 1000000) : Calls Tryz.prog 9 #[strV s] w fun e w' => e = .returned (.int .i64 (linesN s : Nat)) ∧ ∃ n, w' = w.drewN n :=
  (lines_ok s w hl).mono fun e w' h => ⟨h.1, 0, h.2⟩
theorem law_faults (HKn : Knows) (s : List UInt8) (w : World) (hl : s.length ≤ 140737488355328) : Calls Tryz.prog 3 #[strV s] w (fun e w' => e = .returned (.bool true) ∧ Below w.heap.size w w') := by
  have HK := Lib.hid HKn
  have hz := str_size s
  clear HKn
  by_cases h6 : 6000 < s.length
  · have h6' : (6000 : Int) < (s.length : Int) := by omega
    go_enter Tryz.func3, Tryz.ntmps3
    go_wp2_with fail
    refine (HK.out _).mono ?_
    rintro e w1 ⟨rfl, hb⟩
    have HB := Lib.hid hb
    clear hb
    go_wp2_with fail
    go_ret
    exact ⟨rfl, HB.out⟩
  have h6' : ¬ (6000 : Int) < (s.length : Int) := by omega
  have HP := Lib.hid (fun (t : List UInt8) (ht : t.length ≤ 140737488355328) w => Parse_ok t w ht)
  unfold PaPost at HP
  obtain ⟨P, hP⟩ : ∃ P, parse s = P := ⟨_, rfl⟩
  have HP1 := Lib.hid (fun w => HP.out s hl w)
  rw [hP] at HP1
  by_cases h60 : P.err = 60
  case neg =>
    have k1 : (P.err != 60) = true := by simpa using h60
    have k2 : (P.err == 60) = false := by simpa using h60
    clear hP h60
    go_enter Tryz.func3, Tryz.ntmps3
    go_wp2_with fail
    refine (HP1.out _).mono ?_
    rintro e w1 ⟨vs1, vi1, rs1, rfl, ho1, ho2, -, -, hb⟩
    obtain ⟨A1, c1, rfl⟩ := ho1.form
    obtain ⟨B1, d1, rfl⟩ := ho2.form
    have HF1 := Lib.hid (FB.laid (hb) (.slice A1 P.ss.length c1) (.slice B1 rs1.length d1) P.err P.line)
    have HL1 := Lib.hid (lay0_j w1)
    have HM1 := Lib.hid (lay0_f w1)
    have hst1 : (w1.alloc (.cells (jC nilV nilV) 26)).alloc (.cells #[.int .i64 0, .int .i64 0, .int .i64 0] 31) = lay0 w1 := rfl
    clear ho1 ho2 hb
    go_wp2_with (first
      | (refine wpList_store_row rfl 26 (.tmp 3) (.tmp 19) rfl w1.heap.size (jC (.slice A1 P.ss.length c1) (.slice B1 rs1.length d1)) rfl rfl 26 _ HL1.out (job_size _ _) rfl (jC_one _ _ _ _ _ _) ?_)
      | (refine wpList_store_row rfl 31 (.tmp 4) (.tmp 20) rfl (w1.heap.size + 1) (fC P.err P.line) rfl rfl 31 _ (HM1.out.farRow (by omega) _) (flt_size _ _) rfl (flt_one _ _) ?_; have d0 := HF1.out.err))
    refine (HK.out _).mono ?_
    rintro e w2 ⟨rfl, hb⟩
    have HB2 := Lib.hid (HF1.out.keep hb)
    clear hb
    go_wp2_with fail
    go_ret
    exact ⟨rfl, HB2.out.bel⟩
  case pos =>
    have hpf := parse_fault (s := s) (by omega) (by rw [hP]; exact h60)
    rw [hP] at hpf
    obtain ⟨f1, f2, f3, f4, f5⟩ := hpf
    have k1 : (P.err != 60) = false := by simp [h60]
    have hPL : P.line ≤ 6001 := by
      have := List.count_le_length (a := (10 : UInt8)) (l := s)
      omega
    have HPF := Lib.hid (And.intro f4 f5)
    have H60 := Lib.hid h60
    clear f1 f3 f4 f5 hP h60
    go_enter Tryz.func3, Tryz.ntmps3
    go_wp2_with fail
    refine (HP1.out _).mono ?_
    rintro e w1 ⟨vs1, vi1, rs1, rfl, ho1, ho2, -, -, hb⟩
    obtain ⟨A1, c1, rfl⟩ := ho1.form
    obtain ⟨B1, d1, rfl⟩ := ho2.form
    have hbelx := hb
    have HF1 := Lib.hid (FB.laid (hbelx) (.slice A1 P.ss.length c1) (.slice B1 rs1.length d1) P.err P.line)
    have HL1 := Lib.hid (lay0_j w1)
    have HM1 := Lib.hid (lay0_f w1)
    have HY1 := Lib.hid (hb.trans ((lay2_below w1 (.slice A1 P.ss.length c1) (.slice B1 rs1.length d1) P.err P.line).mono hb.size))
    have hst1 : (w1.alloc (.cells (jC nilV nilV) 26)).alloc (.cells #[.int .i64 0, .int .i64 0, .int .i64 0] 31) = lay0 w1 := rfl
    clear ho1 ho2 hb hbelx
    have dl := HF1.out.line
    obtain ⟨w2, hw2⟩ : ∃ w2, lay2 w1 (.slice A1 P.ss.length c1) (.slice B1 rs1.length d1) P.err P.line = w2 := ⟨_, rfl⟩
    rw [hw2] at HF1 HY1 dl
    have d0 := HF1.out.err
    go_wp2_with (first
      | (refine wpList_store_row rfl 26 (.tmp 3) (.tmp 19) rfl w1.heap.size (jC (.slice A1 P.ss.length c1) (.slice B1 rs1.length d1)) rfl rfl 26 _ HL1.out (job_size _ _) rfl (jC_one _ _ _ _ _ _) ?_)
      | (refine wpList_store_row rfl 31 (.tmp 4) (.tmp 20) rfl (w1.heap.size + 1) (fC P.err P.line) rfl rfl 31 _ (HM1.out.farRow (by omega) _) (flt_size _ _) rfl (flt_one _ _) ?_))
    go_loop [5, 7] (fun av nv => ∃ m, m + 1 ≤ P.line ∧ av = .int .i64 (linesLen m s : Nat) ∧ nv = .int .i64 ((m + 1 : Nat) : Int)) (fun _ nv => (P.line - Go.RowKit.intOf nv).toNat)
    case atStart => exact ⟨0, f2, rfl, rfl⟩
    case round =>
      obtain ⟨m, hm, rfl, rfl⟩ := hrel
      have ha := linesLen_le m s
      obtain ⟨a, haa⟩ : ∃ a, a = linesLen m s := ⟨_, rfl⟩
      rw [← haa] at ha ⊢
      have LA := lineAt s a ha
      obtain ⟨f, hff⟩ : ∃ f, f = (cutC 10 (s.drop a)).1.length := ⟨_, rfl⟩
      obtain ⟨b, hbb⟩ : ∃ b, b = a + linesLen 1 (s.drop a) := ⟨_, rfl⟩
      rw [← hff, ← hbb] at LA
      have HAA := Lib.hid haa
      have HBB := Lib.hid hbb
      clear haa hff hbb
      by_cases hlt : m + 1 < P.line
      · go_wp2_with fail
        go_loop [5] (fun v => ∃ i : Nat, i ≤ f ∧ v = .int .i64 ((a + i : Nat) : Int)) (fun v => (s.length - Go.RowKit.intOf v).toNat)
        case atStart => exact ⟨0, Nat.zero_le _, rfl⟩
        case round =>
          obtain ⟨i, hi, rfl⟩ := hrel
          by_cases hif : i < f
          · obtain ⟨h1, h2⟩ := LA.inn i hif
            have hidx : ∀ w, (Instr.index 9 (strV s) (.int .i64 ((a : Int) + (i : Int)))).run Tryz.prog w = .ok (.int .u8 (s[a + i].toNat : Int)) w := fun w => by
              have h := str_at w h1 rfl
              rwa [Int.natCast_add] at h
            obtain ⟨c, hc⟩ : ∃ c, c = s[a + i] := ⟨_, rfl⟩
            rw [← hc] at hidx h2
            have k3 : ((c.toNat : Int) == 10) = false := by
              rw [beq_eq_false_iff_ne]
              intro e
              exact h2 (UInt8.toNat_inj.1 (by have : c.toNat = 10 := by omega
                                              simpa using this))
            have k4 : ((c.toNat : Int) != 10) = true := by rw [bne, k3]; rfl
            have hjl : (a : Int) + (i : Int) < (s.length : Int) := by omega
            clear hc h2
            go_wp2_with fail
            go_round
            case rel => exact ⟨i + 1, by omega, by go_num⟩
            case measure => simp [Go.RowKit.intOf]; omega
          · obtain rfl : i = f := by omega
            have hb := LA.le
            have hbm : imin ((a : Int) + (i : Int) + 1) (s.length : Int) = (b : Int) := by
              unfold imin
              rcases LA.out with ⟨h1, h2⟩ | ⟨h1, h2, h3⟩ <;> split <;> omega
            have HS := Lib.hid (show b = linesLen (m + 1) s by rw [linesLen_succ, ← HAA.out, HBB.out])
            rcases LA.out with ⟨h1, h2⟩ | ⟨h1, h2, h3⟩
            · have hjl : ¬ (a : Int) + (i : Int) < (s.length : Int) := by omega
              go_wp2_with fail
              go_round
              case rel => exact ⟨m + 1, by omega, by rw [← HS.out]; exact congrArg (Value.int IntKind.i64) (by first | omega | (unfold imin; split <;> omega)), by go_num⟩
              case measure => simp [Go.RowKit.intOf]; omega
            · have hidx : ∀ w, (Instr.index 9 (strV s) (.int .i64 ((a : Int) + (i : Int)))).run Tryz.prog w = .ok (.int .u8 10) w := fun w => by
                have h := str_at w h1 rfl
                rw [h2, Int.natCast_add] at h
                exact h
              have hjl : (a : Int) + (i : Int) < (s.length : Int) := by omega
              clear h2
              go_wp2_with fail
              go_round
              case rel => exact ⟨m + 1, by omega, by rw [← HS.out]; exact congrArg (Value.int IntKind.i64) (by first | omega | (unfold imin; split <;> omega)), by go_num⟩
              case measure => simp [Go.RowKit.intOf]; omega
      · have hmL : m = P.line - 1 := by omega
        have HPF2 := Lib.hid (show (P.line ≠ 1 → (parse (s.take a)).err = 0) ∧ parse (s.take b) = P by
          have h := HPF.out
          rw [← hmL, ← HAA.out, ← HBB.out] at h
          exact h)
        have HA0 := Lib.hid (show a ≠ 0 → P.line ≠ 1 from fun h e => h (by
          have : m = 0 := by omega
          rw [HAA.out, this]
          rfl))
        obtain ⟨G, hG⟩ : ∃ G, parse (s.take a) = G := ⟨_, rfl⟩
        have hta : (s.take a).length ≤ 140737488355328 := by rw [List.length_take]; omega
        have htb : (s.take b).length ≤ 140737488355328 := by rw [List.length_take]; omega
        have HPa := Lib.hid (fun w => HP.out (s.take a) hta w)
        have HPb := Lib.hid (fun w => HP.out (s.take b) htb w)
        rw [hG] at HPa HPF2
        rw [HPF2.out.2] at HPb
        have HGz := Lib.hid (fun h : a ≠ 0 => HPF2.out.1 (HA0.out h))
        clear hta htb hG HPF2 HA0 HPF HAA HBB HP HP1
        go_wp2_with fail
        go_loop [6] (fun v => ∃ i : Nat, i ≤ f ∧ v = .int .i64 ((a + i : Nat) : Int)) (fun v => (s.length - Go.RowKit.intOf v).toNat)
        case atStart => exact ⟨0, Nat.zero_le _, rfl⟩
        case round =>
          obtain ⟨i, hi, rfl⟩ := hrel
          by_cases hif : i < f
          · obtain ⟨h1, h2⟩ := LA.inn i hif
            have hidx : ∀ w, (Instr.index 9 (strV s) (.int .i64 ((a : Int) + (i : Int)))).run Tryz.prog w = .ok (.int .u8 (s[a + i].toNat : Int)) w := fun w => by
              have h := str_at w h1 rfl
              rwa [Int.natCast_add] at h
            obtain ⟨c, hc⟩ : ∃ c, c = s[a + i] := ⟨_, rfl⟩
            rw [← hc] at hidx h2
            have k3 : ((c.toNat : Int) == 10) = false := by
              rw [beq_eq_false_iff_ne]
              intro e
              exact h2 (UInt8.toNat_inj.1 (by have : c.toNat = 10 := by omega
                                              simpa using this))
            have k4 : ((c.toNat : Int) != 10) = true := by rw [bne, k3]; rfl
            have hjl : (a : Int) + (i : Int) < (s.length : Int) := by omega
            clear hc h2
            go_wp2_with fail
            go_round
            case rel => exact ⟨i + 1, by omega, by go_num⟩
            case measure => simp [Go.RowKit.intOf]; omega
          · obtain rfl : i = f := by omega
            have hb := LA.le
            have hbm : imin ((a : Int) + (i : Int) + 1) (s.length : Int) = (b : Int) := by
              unfold imin
              rcases LA.out with ⟨h1, h2⟩ | ⟨h1, h2, h3⟩ <;> split <;> omega
            have hub : a + i ≤ s.length := by rcases LA.out with ⟨h1, h2⟩ | ⟨h1, h2, h3⟩ <;> omega
            have hsa := fun w => run_strhead s a ha w
            have hsb := fun w => run_strhead s b hb w
            rcases LA.out with ⟨h1, h2⟩ | ⟨h1, h2, h3⟩
            · have hjl : ¬ (a : Int) + (i : Int) < (s.length : Int) := by omega
              clear h1 h2 LA
              go_wp2_with fail
              refine (HPa.out _).mono ?_
              rintro e w3 ⟨vs3, vi3, rs3, rfl, ho1, ho2, -, -, hb⟩
              obtain ⟨A3, c3, rfl⟩ := ho1.form
              obtain ⟨B3, d3, rfl⟩ := ho2.form
              have hbelx := HF1.out.bel.trans (hb.mono HF1.out.bel.size)
              have HF3 := Lib.hid (FB.laid (hbelx) (.slice A3 G.ss.length c3) (.slice B3 rs3.length d3) G.err G.line)
              have HL3 := Lib.hid (lay0_j w3)
              have HM3 := Lib.hid (lay0_f w3)
              have HY3 := Lib.hid (hb.trans ((lay2_below w3 (.slice A3 G.ss.length c3) (.slice B3 rs3.length d3) G.err G.line).mono hb.size))
              have hst3 : (w3.alloc (.cells (jC nilV nilV) 26)).alloc (.cells #[.int .i64 0, .int .i64 0, .int .i64 0] 31) = lay0 w3 := rfl
              clear ho1 ho2 hb hbelx
              obtain ⟨w4, hw4⟩ : ∃ w4, lay2 w3 (.slice A3 G.ss.length c3) (.slice B3 rs3.length d3) G.err G.line = w4 := ⟨_, rfl⟩
              rw [hw4] at HF3 HY3
              have HF1b := Lib.hid (HF1.out.keep HY3.out)
              go_wp2_with (first
                | (refine wpList_store_row rfl 26 (.tmp 8) (.tmp 72) rfl w3.heap.size (jC (.slice A3 G.ss.length c3) (.slice B3 rs3.length d3)) rfl rfl 26 _ HL3.out (job_size _ _) rfl (jC_one _ _ _ _ _ _) ?_)
                | (refine wpList_store_row rfl 31 (.tmp 9) (.tmp 73) rfl (w3.heap.size + 1) (fC G.err G.line) rfl rfl 31 _ (HM3.out.farRow (by omega) _) (flt_size _ _) rfl (flt_one _ _) ?_))
              refine (HPb.out _).mono ?_
              rintro e w5 ⟨vs5, vi5, rs5, rfl, ho1, ho2, -, -, hb⟩
              obtain ⟨A5, c5, rfl⟩ := ho1.form
              obtain ⟨B5, d5, rfl⟩ := ho2.form
              have hbelx := HF3.out.bel.trans (hb.mono HF3.out.bel.size)
              have HF5 := Lib.hid (FB.laid (hbelx) (.slice A5 P.ss.length c5) (.slice B5 rs5.length d5) P.err P.line)
              have HL5 := Lib.hid (lay0_j w5)
              have HM5 := Lib.hid (lay0_f w5)
              have HY5 := Lib.hid (hb.trans ((lay2_below w5 (.slice A5 P.ss.length c5) (.slice B5 rs5.length d5) P.err P.line).mono hb.size))
              have hst5 : (w5.alloc (.cells (jC nilV nilV) 26)).alloc (.cells #[.int .i64 0, .int .i64 0, .int .i64 0] 31) = lay0 w5 := rfl
              clear ho1 ho2 hb hbelx
              obtain ⟨w6, hw6⟩ : ∃ w6, lay2 w5 (.slice A5 P.ss.length c5) (.slice B5 rs5.length d5) P.err P.line = w6 := ⟨_, rfl⟩
              rw [hw6] at HF5 HY5
              have HFC := Lib.hid (show fC P.err P.line = #[.int .i64 60, .int .i64 (P.line : Nat), .int .i64 1] by rw [H60.out]; rfl)
              have HF3b := Lib.hid (HF3.out.keep HY5.out)
              have HF1c := Lib.hid (HF1b.out.keep HY5.out)
              have y5 : Blk w6 (w5.heap.size + 1) 31 #[.int .i64 60, .int .i64 (P.line : Nat), .int .i64 1] := by rw [← HFC.out]; exact HF5.out.b
              have y1 : Blk w6 (w1.heap.size + 1) 31 #[.int .i64 60, .int .i64 (P.line : Nat), .int .i64 1] := by rw [← HFC.out]; exact HF1c.out.b
              have x50 := y5.is 0 (a := .int .i64 60) rfl
              have x51 := y5.is 1 (a := .int .i64 (P.line : Nat)) rfl
              have x52 := y5.is 2 (a := .int .i64 1) rfl
              have x10 := y1.is 0 (a := .int .i64 60) rfl
              have x11 := y1.is 1 (a := .int .i64 (P.line : Nat)) rfl
              have x12 := y1.is 2 (a := .int .i64 1) rfl
              have x3 := HF3b.out.err
              have hq : eq3 60 (P.line : Int) 1 60 (P.line : Int) 1 = true := by simp [eq3]
              clear y5 y1
              by_cases ha0 : a = 0
              · have k6 : ((a : Int) == 0) = true := by simp [ha0]
                clear ha0
                go_upto_region 19 with (first
                    | (refine wpList_store_row rfl 26 (.tmp 10) (.tmp 79) rfl w5.heap.size (jC (.slice A5 P.ss.length c5) (.slice B5 rs5.length d5)) rfl rfl 26 _ HL5.out (job_size _ _) rfl (jC_one _ _ _ _ _ _) ?_)
                    | (refine wpList_store_row rfl 31 (.tmp 11) (.tmp 80) rfl (w5.heap.size + 1) (fC P.err P.line) rfl rfl 31 _ (HM5.out.farRow (by omega) _) (flt_size _ _) rfl (flt_one _ _) ?_))
                go_quiet (fail)
                go_wp2_with fail
                refine (HK.out _).mono ?_
                rintro e w7 ⟨rfl, hb⟩
                have HZ := Lib.hid (HF5.out.bel.trans ((below_drewN (Below.refl _ _) _).trans (hb.mono (Nat.le_refl _)) |>.mono HF5.out.bel.size))
                clear hb
                go_wp2_with fail
                go_ret
                exact ⟨rfl, HZ.out⟩
              · have k6 : ((a : Int) == 0) = false := by simp [ha0]
                have hgz := HGz.out ha0
                have k8 : (G.err == 0) = true := by simp [hgz]
                have hlc := (linesN_count s).2
                obtain ⟨N, hN⟩ : ∃ N, N = linesN s := ⟨_, rfl⟩
                have HLN := Lib.hid (fun wx => lines_q s wx (by omega))
                rw [← hN] at HLN hlc
                clear ha0 hgz hN
                by_cases hgt : N < P.line
                · have k7 : (N : Int) < (P.line : Int) := by omega
                  clear hgt
                  go_upto_region 19 with (first
                    | (refine wpList_store_row rfl 26 (.tmp 10) (.tmp 79) rfl w5.heap.size (jC (.slice A5 P.ss.length c5) (.slice B5 rs5.length d5)) rfl rfl 26 _ HL5.out (job_size _ _) rfl (jC_one _ _ _ _ _ _) ?_)
                    | (refine wpList_store_row rfl 31 (.tmp 11) (.tmp 80) rfl (w5.heap.size + 1) (fC P.err P.line) rfl rfl 31 _ (HM5.out.farRow (by omega) _) (flt_size _ _) rfl (flt_one _ _) ?_))
                  go_quiet ((go_at_call 9; with_reducible exact Calls.quiet_of (HLN.out _)))
                  go_wp2_with fail
                  refine (HK.out _).mono ?_
                  rintro e w7 ⟨rfl, hb⟩
                  have HZ := Lib.hid (HF5.out.bel.trans ((below_drewN (Below.refl _ _) _).trans (hb.mono (Nat.le_refl _)) |>.mono HF5.out.bel.size))
                  clear hb
                  go_wp2_with fail
                  go_ret
                  exact ⟨rfl, HZ.out⟩
                · have k7 : ¬ (N : Int) < (P.line : Int) := by omega
                  clear hgt
                  go_upto_region 19 with (first
                    | (refine wpList_store_row rfl 26 (.tmp 10) (.tmp 79) rfl w5.heap.size (jC (.slice A5 P.ss.length c5) (.slice B5 rs5.length d5)) rfl rfl 26 _ HL5.out (job_size _ _) rfl (jC_one _ _ _ _ _ _) ?_)
                    | (refine wpList_store_row rfl 31 (.tmp 11) (.tmp 80) rfl (w5.heap.size + 1) (fC P.err P.line) rfl rfl 31 _ (HM5.out.farRow (by omega) _) (flt_size _ _) rfl (flt_one _ _) ?_))
                  go_quiet ((go_at_call 9; with_reducible exact Calls.quiet_of (HLN.out _)))
                  go_wp2_with fail
                  refine (HK.out _).mono ?_
                  rintro e w7 ⟨rfl, hb⟩
                  have HZ := Lib.hid (HF5.out.bel.trans ((below_drewN (Below.refl _ _) _).trans (hb.mono (Nat.le_refl _)) |>.mono HF5.out.bel.size))
                  clear hb
                  go_wp2_with fail
                  go_ret
                  exact ⟨rfl, HZ.out⟩
            · have hidx : ∀ w, (Instr.index 9 (strV s) (.int .i64 ((a : Int) + (i : Int)))).run Tryz.prog w = .ok (.int .u8 10) w := fun w => by
                have h := str_at w h1 rfl
                rw [h2, Int.natCast_add] at h
                exact h
              have hjl : (a : Int) + (i : Int) < (s.length : Int) := by omega
              clear h2
              clear LA h1 h3
              go_wp2_with fail
              refine (HPa.out _).mono ?_
              rintro e w3 ⟨vs3, vi3, rs3, rfl, ho1, ho2, -, -, hb⟩
              obtain ⟨A3, c3, rfl⟩ := ho1.form
              obtain ⟨B3, d3, rfl⟩ := ho2.form
              have hbelx := HF1.out.bel.trans (hb.mono HF1.out.bel.size)
              have HF3 := Lib.hid (FB.laid (hbelx) (.slice A3 G.ss.length c3) (.slice B3 rs3.length d3) G.err G.line)
              have HL3 := Lib.hid (lay0_j w3)
              have HM3 := Lib.hid (lay0_f w3)
              have HY3 := Lib.hid (hb.trans ((lay2_below w3 (.slice A3 G.ss.length c3) (.slice B3 rs3.length d3) G.err G.line).mono hb.size))
              have hst3 : (w3.alloc (.cells (jC nilV nilV) 26)).alloc (.cells #[.int .i64 0, .int .i64 0, .int .i64 0] 31) = lay0 w3 := rfl
              clear ho1 ho2 hb hbelx
              obtain ⟨w4, hw4⟩ : ∃ w4, lay2 w3 (.slice A3 G.ss.length c3) (.slice B3 rs3.length d3) G.err G.line = w4 := ⟨_, rfl⟩
              rw [hw4] at HF3 HY3
              have HF1b := Lib.hid (HF1.out.keep HY3.out)
              go_wp2_with (first
                | (refine wpList_store_row rfl 26 (.tmp 8) (.tmp 72) rfl w3.heap.size (jC (.slice A3 G.ss.length c3) (.slice B3 rs3.length d3)) rfl rfl 26 _ HL3.out (job_size _ _) rfl (jC_one _ _ _ _ _ _) ?_)
                | (refine wpList_store_row rfl 31 (.tmp 9) (.tmp 73) rfl (w3.heap.size + 1) (fC G.err G.line) rfl rfl 31 _ (HM3.out.farRow (by omega) _) (flt_size _ _) rfl (flt_one _ _) ?_))
              refine (HPb.out _).mono ?_
              rintro e w5 ⟨vs5, vi5, rs5, rfl, ho1, ho2, -, -, hb⟩
              obtain ⟨A5, c5, rfl⟩ := ho1.form
              obtain ⟨B5, d5, rfl⟩ := ho2.form
              have hbelx := HF3.out.bel.trans (hb.mono HF3.out.bel.size)
              have HF5 := Lib.hid (FB.laid (hbelx) (.slice A5 P.ss.length c5) (.slice B5 rs5.length d5) P.err P.line)
              have HL5 := Lib.hid (lay0_j w5)
              have HM5 := Lib.hid (lay0_f w5)
              have HY5 := Lib.hid (hb.trans ((lay2_below w5 (.slice A5 P.ss.length c5) (.slice B5 rs5.length d5) P.err P.line).mono hb.size))
              have hst5 : (w5.alloc (.cells (jC nilV nilV) 26)).alloc (.cells #[.int .i64 0, .int .i64 0, .int .i64 0] 31) = lay0 w5 := rfl
              clear ho1 ho2 hb hbelx
              obtain ⟨w6, hw6⟩ : ∃ w6, lay2 w5 (.slice A5 P.ss.length c5) (.slice B5 rs5.length d5) P.err P.line = w6 := ⟨_, rfl⟩
              rw [hw6] at HF5 HY5
              have HFC := Lib.hid (show fC P.err P.line = #[.int .i64 60, .int .i64 (P.line : Nat), .int .i64 1] by rw [H60.out]; rfl)
              have HF3b := Lib.hid (HF3.out.keep HY5.out)
              have HF1c := Lib.hid (HF1b.out.keep HY5.out)
              have y5 : Blk w6 (w5.heap.size + 1) 31 #[.int .i64 60, .int .i64 (P.line : Nat), .int .i64 1] := by rw [← HFC.out]; exact HF5.out.b
              have y1 : Blk w6 (w1.heap.size + 1) 31 #[.int .i64 60, .int .i64 (P.line : Nat), .int .i64 1] := by rw [← HFC.out]; exact HF1c.out.b
              have x50 := y5.is 0 (a := .int .i64 60) rfl
              have x51 := y5.is 1 (a := .int .i64 (P.line : Nat)) rfl
              have x52 := y5.is 2 (a := .int .i64 1) rfl
              have x10 := y1.is 0 (a := .int .i64 60) rfl
              have x11 := y1.is 1 (a := .int .i64 (P.line : Nat)) rfl
              have x12 := y1.is 2 (a := .int .i64 1) rfl
              have x3 := HF3b.out.err
              have hq : eq3 60 (P.line : Int) 1 60 (P.line : Int) 1 = true := by simp [eq3]
              clear y5 y1
              by_cases ha0 : a = 0
              · have k6 : ((a : Int) == 0) = true := by simp [ha0]
                clear ha0
                go_upto_region 19 with (first
                    | (refine wpList_store_row rfl 26 (.tmp 10) (.tmp 79) rfl w5.heap.size (jC (.slice A5 P.ss.length c5) (.slice B5 rs5.length d5)) rfl rfl 26 _ HL5.out (job_size _ _) rfl (jC_one _ _ _ _ _ _) ?_)
                    | (refine wpList_store_row rfl 31 (.tmp 11) (.tmp 80) rfl (w5.heap.size + 1) (fC P.err P.line) rfl rfl 31 _ (HM5.out.farRow (by omega) _) (flt_size _ _) rfl (flt_one _ _) ?_))
                go_quiet (fail)
                go_wp2_with fail
                refine (HK.out _).mono ?_
                rintro e w7 ⟨rfl, hb⟩
                have HZ := Lib.hid (HF5.out.bel.trans ((below_drewN (Below.refl _ _) _).trans (hb.mono (Nat.le_refl _)) |>.mono HF5.out.bel.size))
                clear hb
                go_wp2_with fail
                go_ret
                exact ⟨rfl, HZ.out⟩
              · have k6 : ((a : Int) == 0) = false := by simp [ha0]
                have hgz := HGz.out ha0
                have k8 : (G.err == 0) = true := by simp [hgz]
                have hlc := (linesN_count s).2
                obtain ⟨N, hN⟩ : ∃ N, N = linesN s := ⟨_, rfl⟩
                have HLN := Lib.hid (fun wx => lines_q s wx (by omega))
                rw [← hN] at HLN hlc
                clear ha0 hgz hN
                by_cases hgt : N < P.line
                · have k7 : (N : Int) < (P.line : Int) := by omega
                  clear hgt
                  go_upto_region 19 with (first
                    | (refine wpList_store_row rfl 26 (.tmp 10) (.tmp 79) rfl w5.heap.size (jC (.slice A5 P.ss.length c5) (.slice B5 rs5.length d5)) rfl rfl 26 _ HL5.out (job_size _ _) rfl (jC_one _ _ _ _ _ _) ?_)
                    | (refine wpList_store_row rfl 31 (.tmp 11) (.tmp 80) rfl (w5.heap.size + 1) (fC P.err P.line) rfl rfl 31 _ (HM5.out.farRow (by omega) _) (flt_size _ _) rfl (flt_one _ _) ?_))
                  go_quiet ((go_at_call 9; with_reducible exact Calls.quiet_of (HLN.out _)))
                  go_wp2_with fail
                  refine (HK.out _).mono ?_
                  rintro e w7 ⟨rfl, hb⟩
                  have HZ := Lib.hid (HF5.out.bel.trans ((below_drewN (Below.refl _ _) _).trans (hb.mono (Nat.le_refl _)) |>.mono HF5.out.bel.size))
                  clear hb
                  go_wp2_with fail
                  go_ret
                  exact ⟨rfl, HZ.out⟩
                · have k7 : ¬ (N : Int) < (P.line : Int) := by omega
                  clear hgt
                  go_upto_region 19 with (first
                    | (refine wpList_store_row rfl 26 (.tmp 10) (.tmp 79) rfl w5.heap.size (jC (.slice A5 P.ss.length c5) (.slice B5 rs5.length d5)) rfl rfl 26 _ HL5.out (job_size _ _) rfl (jC_one _ _ _ _ _ _) ?_)
                    | (refine wpList_store_row rfl 31 (.tmp 11) (.tmp 80) rfl (w5.heap.size + 1) (fC P.err P.line) rfl rfl 31 _ (HM5.out.farRow (by omega) _) (flt_size _ _) rfl (flt_one _ _) ?_))
                  go_quiet ((go_at_call 9; with_reducible exact Calls.quiet_of (HLN.out _)))
                  go_wp2_with fail
                  refine (HK.out _).mono ?_
                  rintro e w7 ⟨rfl, hb⟩
                  have HZ := Lib.hid (HF5.out.bel.trans ((below_drewN (Below.refl _ _) _).trans (hb.mono (Nat.le_refl _)) |>.mono HF5.out.bel.size))
                  clear hb
                  go_wp2_with fail
                  go_ret
                  exact ⟨rfl, HZ.out⟩
end Go.Proofs.YtldjgpnbkbmgoaaGreatDoor

