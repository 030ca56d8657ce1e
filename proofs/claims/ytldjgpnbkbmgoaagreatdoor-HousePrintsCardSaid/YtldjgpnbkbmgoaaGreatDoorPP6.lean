/-
  The program's Right and Print of a job. Conditions: as each states. house.fault and house.Parse: a text's job, or where its fault is. Conditions: none.
-/
import Derived.Test.YtldjgpnbkbmgoaaGreatDoorPP4
import Derived.Test.YtldjgpnbkbmgoaaGreatDoorPP5
import Derived.Great.BuildSlice
set_option linter.unusedSimpArgs false
set_option linter.unusedVariables false
set_option maxRecDepth 100000
set_option maxHeartbeats 8000000
namespace Go.Proofs.YtldjgpnbkbmgoaaGreatDoor
open Go.RowKit Go.Lib
attribute [local go_sem ↓] load_req stop_req
def usC (s : Nat) : List Value := [.int .u64 s]
theorem usC_len (s : Nat) : (usC s).length = 1 := rfl
theorem Lay.us {w : World} {b off : Nat} {s : Nat} (h : Lay w b off (usC s)) : w.cell? ⟨b, off, none⟩ = some (.int .u64 (s : Nat)) := h 0 _ rfl
structure JSl (w : World) (vs vi : Value) (ss : List Nat) (rs : List HRw) : Prop where
  s : Sl usC w w.heap.size vs ss
  i : Sl hiC w w.heap.size vi rs
  ok : ∀ r ∈ rs, HOk w r
  sl : ∀ x ∈ ss, x < 18446744073709551616
theorem JSl.below {w w' : World} {vs vi : Value} {ss : List Nat} {rs : List HRw} (h : JSl w vs vi ss rs) (hb : Below w.heap.size w w') : JSl w' vs vi ss rs :=
  ⟨(h.s.below hb).more hb.size, (h.i.below hb).more hb.size, fun r hr => (h.ok r hr).below hb, h.sl⟩
abbrev xsOf (rs : List HRw) : List HIt := rs.map (·.x)
theorem jobOk_xs {ss : List Nat} {rs : List HRw} : jobOk ss (xsOf rs) = true ↔ 1 ≤ ss.length ∧ ss.length ≤ 8 ∧ rs.length ≤ 1000 ∧ (∀ s ∈ ss, s ≠ 0) ∧ ∀ r ∈ rs, itOk r.x = true := by
  rw [jobOk_iff]
  simp only [xsOf, List.length_map, List.mem_map, forall_exists_index, and_imp, forall_apply_eq_imp_iff₂]
theorem jobOk_no {ss : List Nat} {rs : List HRw} (h : ¬ (1 ≤ ss.length ∧ ss.length ≤ 8 ∧ rs.length ≤ 1000 ∧ (∀ s ∈ ss, s ≠ 0) ∧ ∀ r ∈ rs, itOk r.x = true)) : jobOk ss (xsOf rs) = false := by
  cases hj : jobOk ss (xsOf rs) with
  | false => rfl
  | true => exact absurd (jobOk_xs.1 hj) h
theorem hRight_ok (vs vi : Value) (ss : List Nat) (rs : List HRw) (w : World) (h : JSl w vs vi ss rs) : Calls Tryz.prog 14 #[.agg #[vs, vi]] w (BPost w (jobOk ss (xsOf rs))) := by
  have hb1 := Blk.new w 26 #[vs, vi]
  have hW1 := (Below.refl w.heap.size w).alloc (Nat.le_refl _) (.cells #[vs, vi] 26)
  obtain ⟨w1, hst1⟩ : ∃ w1, w.alloc (.cells #[vs, vi] 26) = w1 := ⟨_, rfl⟩
  rw [hst1] at hb1 hW1
  have HJ := Lib.hid (h.below hW1)
  have HW1 := Lib.hid hW1
  have HB1 := Lib.hid hb1
  have hfit := Lib.hid (fun r hr => (h.ok r hr).q)
  obtain ⟨A, ca, rfl, h1, h2, h3⟩ := h.s
  obtain ⟨A', ca', rfl, h1', h2', h3'⟩ := h.i
  have c0 : w1.cell? ⟨w.heap.size, 0, none⟩ = some (.slice A ss.length ca) := hb1.is 0 rfl
  have c1 : w1.cell? ⟨w.heap.size, 1, none⟩ = some (.slice A' rs.length ca') := hb1.is 1 rfl
  have H3 := Lib.hid h3
  have H3' := Lib.hid h3'
  clear h3 h3' h2 h2' hb1 hW1 h
  by_cases l1 : ss.length < 1
  · have HN := Lib.hid (jobOk_no (ss := ss) (rs := rs) (fun h => by omega))
    go_enter Tryz.func14, Tryz.ntmps14
    go_wp2_with fail
    go_ret
    exact ⟨by rw [HN.out]; try rfl, HW1.out⟩
  by_cases l8 : 8 < ss.length
  · have HN := Lib.hid (jobOk_no (ss := ss) (rs := rs) (fun h => by omega))
    go_enter Tryz.func14, Tryz.ntmps14
    go_wp2_with fail
    go_ret
    exact ⟨by rw [HN.out]; try rfl, HW1.out⟩
  by_cases l9 : 1000 < rs.length
  · have HN := Lib.hid (jobOk_no (ss := ss) (rs := rs) (fun h => by omega))
    go_enter Tryz.func14, Tryz.ntmps14
    go_wp2_with fail
    go_ret
    exact ⟨by rw [HN.out]; try rfl, HW1.out⟩
  go_enter Tryz.func14, Tryz.ntmps14
  go_wp2_with fail
  go_loop [26] (fun i => ∃ k : Nat, k ≤ ss.length ∧ i = .int .i64 (k : Nat) ∧ Hid (∀ s ∈ ss.take k, s ≠ 0)) (fun i => (ss.length - Go.RowKit.intOf i).toNat)
  case atStart => exact ⟨0, Nat.zero_le _, rfl, Lib.hid (by simp)⟩
  case round =>
    obtain ⟨k, hk, rfl, HALL⟩ := hrel
    by_cases hlt : k < ss.length
    · obtain ⟨b, off, rfl, hb, hlay⟩ := H3.out (by omega)
      have x0 := ((hlay.of_heap (HW1.out.block b hb)).elem usC_len k hlt).us
      rw [Nat.mul_one] at x0
      have HT := Lib.hid (List.take_succ_eq_append_getElem hlt)
      have hmem := List.getElem_mem hlt
      obtain ⟨s, hs⟩ : ∃ s, s = ss[k] := ⟨_, rfl⟩
      rw [← hs] at x0 HT hmem
      clear hlay hs
      by_cases h0 : s = 0
      · have HN := Lib.hid (jobOk_no (ss := ss) (rs := rs) (fun h => h.2.2.2.1 s hmem h0))
        have k0 : ((s : Int) == 0) = true := by simp [h0]
        clear hmem h0
        go_wp2_with fail
        go_ret
        exact ⟨by rw [HN.out]; try rfl, HW1.out⟩
      · have k0 : ((s : Int) == 0) = false := by simpa using h0
        have HA2 := Lib.hid (show ∀ x ∈ ss.take (k + 1), x ≠ 0 from fun x hx => by
          rw [HT.out] at hx
          rcases List.mem_append.1 hx with hx | hx
          · exact HALL.out x hx
          · simp only [List.mem_cons, List.not_mem_nil, or_false] at hx
            rw [hx]
            exact h0)
        clear hmem h0
        go_wp2_with fail
        go_round
        case rel => exact ⟨k + 1, by omega, by go_num, HA2⟩
        case measure => simp [Go.RowKit.intOf]; omega
    · obtain rfl : k = ss.length := by omega
      rw [List.take_length] at HALL
      go_wp2_with fail
      go_loopw [36] (fun i wr => ∃ k : Nat, k ≤ rs.length ∧ i = .int .i64 (k : Nat) ∧ Hid (Below w.heap.size w wr) ∧ Hid (∀ r ∈ rs.take k, itOk r.x = true)) (fun i _ => (rs.length - Go.RowKit.intOf i).toNat)
      case atStart => exact ⟨0, Nat.zero_le _, rfl, HW1, Lib.hid (by simp)⟩
      case round =>
        obtain ⟨k, hk, rfl, HW, HALL2⟩ := hrel
        have hsz := HW.out.size
        by_cases hlt : k < rs.length
        · obtain ⟨b, off, rfl, hb, hlay⟩ := H3'.out (by omega)
          have hrow := (hlay.of_heap (HW.out.block b hb)).elem hiC_len k hlt
          have HT := Lib.hid (List.take_succ_eq_append_getElem hlt)
          have hmem := List.getElem_mem hlt
          have hq := hfit.out rs[k] hmem
          obtain ⟨r, hr⟩ : ∃ r, r = rs[k] := ⟨_, rfl⟩
          rw [← hr] at hrow HT hmem hq
          have HROW := Lib.hid hrow
          have hN2 := Blk.new wr 62 zeroHi
          have hW2 := (Below.refl wr.heap.size wr).alloc (Nat.le_refl _) (.cells zeroHi 62)
          obtain ⟨w2, hst2⟩ : ∃ w2, wr.alloc (.cells zeroHi 62) = w2 := ⟨_, rfl⟩
          rw [hst2] at hN2 hW2
          have HN3 := Lib.hid (hN2.row (hiA r))
          have hW3 := below_setRow hW2 (g := wr.heap.size) (Nat.le_refl _) (hiA r)
          have HN2 := Lib.hid hN2
          have HW3 := Lib.hid (HW.out.trans (hW3.mono hsz))
          have HR := Lib.hid (fun w => hright_ok r w hq)
          clear hrow hr hq hN2 hW2 hW3 hlay
          cases hok : itOk r.x
          · have HN := Lib.hid (jobOk_no (ss := ss) (rs := rs) (fun h => by have := h.2.2.2.2 r hmem; rw [hok] at this; cases this))
            rw [hok] at HR
            clear hmem hok
            go_wp2_with (first
              | (refine load_arr rfl 62 (.tmp 38) rfl b (off + k * 29) rfl (hiA r) _ HROW.out Tryz.underlying62 rfl (hit_size r) ?_)
              | (refine wpList_store_row rfl 62 (.tmp 6) (.tmp 39) rfl wr.heap.size (hiA r) rfl rfl 62 zeroHi HN2.out (hit_size r) rfl (hiA_one r) ?_)
              | (refine load_bx rfl 62 (.tmp 6) rfl wr.heap.size rfl 62 (hiA r) _ HN3.out Tryz.underlying62 rfl (hit_size r) ?_))
            refine (HR.out _).mono ?_
            rintro e w4 ⟨rfl, hb4⟩
            have HW4 := Lib.hid (HW3.out.trans (hb4.mono HW3.out.size))
            clear hb4
            go_wp2_with fail
            go_ret
            exact ⟨by rw [HN.out]; try rfl, HW4.out⟩
          · have HA2 := Lib.hid (show ∀ x ∈ rs.take (k + 1), itOk x.x = true from fun x hx => by
              rw [HT.out] at hx
              rcases List.mem_append.1 hx with hx | hx
              · exact HALL2.out x hx
              · simp only [List.mem_cons, List.not_mem_nil, or_false] at hx
                rw [hx]
                exact hok)
            rw [hok] at HR
            clear hmem hok
            go_wp2_with (first
              | (refine load_arr rfl 62 (.tmp 38) rfl b (off + k * 29) rfl (hiA r) _ HROW.out Tryz.underlying62 rfl (hit_size r) ?_)
              | (refine wpList_store_row rfl 62 (.tmp 6) (.tmp 39) rfl wr.heap.size (hiA r) rfl rfl 62 zeroHi HN2.out (hit_size r) rfl (hiA_one r) ?_)
              | (refine load_bx rfl 62 (.tmp 6) rfl wr.heap.size rfl 62 (hiA r) _ HN3.out Tryz.underlying62 rfl (hit_size r) ?_))
            refine (HR.out _).mono ?_
            rintro e w4 ⟨rfl, hb4⟩
            have HW4 := Lib.hid (HW3.out.trans (hb4.mono HW3.out.size))
            clear hb4
            go_wp2_with fail
            go_roundw
            case rel => exact ⟨k + 1, by omega, by go_num, HW4, HA2⟩
            case measure => simp [Go.RowKit.intOf]; omega
        · obtain rfl : k = rs.length := by omega
          rw [List.take_length] at HALL2
          have HY := Lib.hid (jobOk_xs.2 ⟨by omega, by omega, by omega, HALL.out, HALL2.out⟩)
          go_wp2_with fail
          go_ret
          exact ⟨by rw [HY.out]; try rfl, HW.out⟩
theorem secsT_len (ss : List Nat) : (secsT ss).length = 24 * ss.length := by
  induction ss with
  | nil => rfl
  | cons a l ih =>
    have e : secsT (a :: l) = (secT a ++ [10]) ++ secsT l := by simp [secsT]
    have t3 : (hexT a).length = 16 := hexF_len _ _
    rw [e, List.length_append, ih]
    simp [secT, wSecret, t3]
    omega
theorem itsT_len {xs : List HIt} (h : ∀ x ∈ xs, itOk x = true) : (itsT xs).length ≤ 30001 * xs.length := by
  induction xs with
  | nil => simp [itsT]
  | cons a l ih =>
    have e : itsT (a :: l) = (itT a ++ [10]) ++ itsT l := by simp [itsT]
    have h1 := itT_max a (h a (by simp))
    have h2 := ih fun x hx => h x (List.mem_cons_of_mem _ hx)
    rw [e]
    simp only [List.length_append, List.length_cons, List.length_nil]
    omega
theorem secsT_snoc (ss : List Nat) (s : Nat) : secsT (ss ++ [s]) = secsT ss ++ (secT s ++ [10]) := by simp [secsT]
theorem itsT_snoc (xs : List HIt) (x : HIt) : itsT (xs ++ [x]) = itsT xs ++ (itT x ++ [10]) := by simp [itsT]
def HPPost (w : World) (ss : List Nat) (rs : List HRw) (e : Ending) (w' : World) : Prop :=
  e = .returned (.tuple #[strV (if jobOk ss (xsOf rs) = true then jobT ss (xsOf rs) else []), .int .i64 (if jobOk ss (xsOf rs) = true then 0 else 1)]) ∧ Below w.heap.size w w'
theorem hPrint_ok (vs vi : Value) (ss : List Nat) (rs : List HRw) (w : World) (h : JSl w vs vi ss rs) : Calls Tryz.prog 11 #[.agg #[vs, vi]] w (HPPost w ss rs) := by
  have hb1 := Blk.new w 26 #[vs, vi]
  have hW1 := (Below.refl w.heap.size w).alloc (Nat.le_refl _) (.cells #[vs, vi] 26)
  obtain ⟨w1, hst1⟩ : ∃ w1, w.alloc (.cells #[vs, vi] 26) = w1 := ⟨_, rfl⟩
  rw [hst1] at hb1 hW1
  have HJ := Lib.hid (h.below hW1)
  have HH := Lib.hid h
  have HW1 := Lib.hid hW1
  have HB1 := Lib.hid hb1
  have hsz1 : (Tryz.prog.info? 26).map (·.size) = some (#[vs, vi] : Array Value).size := by kernel_rfl
  have HSZ := Lib.hid hsz1
  have HR := Lib.hid (hRight_ok vs vi ss rs w1 HJ.out)
  cases hj : jobOk ss (xsOf rs)
  · rw [hj] at HR
    have HP := Lib.hid (show HPPost w ss rs = fun e w' => e = .returned (.tuple #[strV [], .int .i64 1]) ∧ Below w.heap.size w w' by unfold HPPost; rw [hj]; rfl)
    rw [HP.out]
    clear h hb1 hW1 hsz1 hj
    go_enter Tryz.func11, Tryz.ntmps11
    go_wp2_with (refine load_bx rfl 26 (.tmp 1) rfl w.heap.size rfl 26 #[vs, vi] _ HB1.out Tryz.underlying26 rfl HSZ.out ?_)
    refine HR.out.mono ?_
    rintro e w2 ⟨rfl, hb2⟩
    have HW2 := Lib.hid (HW1.out.trans (hb2.mono HW1.out.size))
    clear hb2
    go_wp2_with fail
    go_ret2
    exact ⟨rfl, HW2.out⟩
  · rw [hj] at HR
    have HP := Lib.hid (show HPPost w ss rs = fun e w' => e = .returned (.tuple #[strV (jobT ss (xsOf rs)), .int .i64 0]) ∧ Below w.heap.size w w' by unfold HPPost; rw [hj]; rfl)
    rw [HP.out]
    obtain ⟨j1, j2, j3, j4, j5⟩ := jobOk_xs.1 hj
    have HI := Lib.hid j5
    have HSL := Lib.hid h.sl
    obtain ⟨A, ca, rfl, h1, h2, h3⟩ := h.s
    obtain ⟨A', ca', rfl, h1', h2', h3'⟩ := h.i
    have H3 := Lib.hid h3
    have H3' := Lib.hid h3'
    clear h3 h3' h2 h2' h hb1 hW1 hsz1 hj j4 j5
    go_enter Tryz.func11, Tryz.ntmps11
    go_wp2_with (refine load_bx rfl 26 (.tmp 1) rfl w.heap.size rfl 26 #[.slice A ss.length ca, .slice A' rs.length ca'] _ HB1.out Tryz.underlying26 rfl HSZ.out ?_)
    refine HR.out.mono ?_
    rintro e w2 ⟨rfl, hb2⟩
    have hB2 := HB1.out.below hb2 HB1.out.lt
    have HW2 := Lib.hid (HW1.out.trans (hb2.mono HW1.out.size))
    have hz2 : w.heap.size < w2.heap.size := hB2.lt
    have hD := Bld.new w2
    have hB3 := hB2.alloc (.cells #[.pointer none, .slice none 0 0] 67)
    have hW3 := (Below.refl w2.heap.size w2).alloc (Nat.le_refl _) (.cells #[.pointer none, .slice none 0 0] 67)
    obtain ⟨w3, hst3⟩ : ∃ w3, w2.alloc (.cells #[.pointer none, .slice none 0 0] 67) = w3 := ⟨_, rfl⟩
    rw [hst3] at hD hB3 hW3
    have HD := Lib.hid hD
    have HB3 := Lib.hid hB3
    have HW3 := Lib.hid hW3
    have c0 : w3.cell? ⟨w.heap.size, 0, none⟩ = some (.slice A ss.length ca) := hB3.is 0 rfl
    have c1 : w3.cell? ⟨w.heap.size, 1, none⟩ = some (.slice A' rs.length ca') := hB3.is 1 rfl
    obtain ⟨g, hg⟩ : ∃ g, w2.heap.size = g := ⟨_, rfl⟩
    rw [hg] at HD HW3 hz2
    clear hb2 hD hB2 hB3 hW3
    go_wp2_with fail
    go_loopw [15] (fun i wr => ∃ k : Nat, k ≤ ss.length ∧ i = .int .i64 (k : Nat) ∧ Hid (Bld wr g (secsT (ss.take k))) ∧ Hid (Below g w2 wr)) (fun i _ => (ss.length - Go.RowKit.intOf i).toNat)
    case atStart => exact ⟨0, Nat.zero_le _, rfl, HD, HW3⟩
    case round =>
      obtain ⟨k, hk, rfl, HB, HW⟩ := hrel
      have hbw := HW2.out.trans (HW.out.mono (Nat.le_of_lt hz2))
      by_cases hlt : k < ss.length
      · obtain ⟨b, off, rfl, hb, hlay⟩ := H3.out (by omega)
        have x0 := ((hlay.of_heap (hbw.block b hb)).elem usC_len k hlt).us
        rw [Nat.mul_one] at x0
        have HT := Lib.hid (List.take_succ_eq_append_getElem hlt)
        have hsl := HSL.out ss[k] (List.getElem_mem hlt)
        have hpl := secsT_len (ss.take k)
        have hkl := List.length_take_le k ss
        obtain ⟨s, hs⟩ : ∃ s, s = ss[k] := ⟨_, rfl⟩
        rw [← hs] at x0 HT hsl
        have HX := Lib.hid (fun w => hex_ok s w hsl)
        obtain ⟨t, ht⟩ : ∃ t, t = hexT s := ⟨_, rfl⟩
        rw [← ht] at HX
        have htl : t.length = 16 := by rw [ht]; exact hexF_len _ _
        obtain ⟨p1, g1⟩ : ∃ p, p = [115, 101, 99, 114, 101, 116, 32] ++ t := ⟨_, rfl⟩
        have e1 : ∀ w, (Op.stringOp .add ⟨#[115, 101, 99, 114, 101, 116, 32]⟩ ⟨t.toArray⟩).run Tryz.prog w = .ok (strV p1) w := fun w => by rw [g1]; exact str_add [115, 101, 99, 114, 101, 116, 32] t (by simp; omega) w
        obtain ⟨p2, g2⟩ : ∃ p, p = p1 ++ [10] := ⟨_, rfl⟩
        have e2 : ∀ w, (Op.stringOp .add ⟨p1.toArray⟩ ⟨#[10]⟩).run Tryz.prog w = .ok (strV p2) w := fun w => by rw [g2]; exact str_add p1 [10] (by simp [g1]; omega) w
        have HP2 := Lib.hid (show secT s ++ [10] = p2 by rw [g2, g1, ht]; simp [secT, wSecret])
        have hp2 : p2.length ≤ 100 := by simp [g2, g1]; omega
        obtain ⟨p, hpp⟩ : ∃ p, p = secsT (ss.take k) := ⟨_, rfl⟩
        rw [← hpp] at HB hpl
        have HPP := Lib.hid hpp
        have hpl2 : p.length ≤ 200 := by omega
        clear hlay hs ht hpp hpl hkl hsl htl g1 g2 hbw
        go_wp2_with fail
        refine (HX.out _).mono ?_
        rintro e w4 ⟨rfl, hb4⟩
        have HB4 := Lib.hid (HB.out.below hb4)
        have HW4 := Lib.hid (HW.out.trans (hb4.mono (Nat.le_of_lt HB.out.lt)))
        clear hb4
        go_wp2_with fail
        refine (wstr_ok _ _ p p2 HB4.out (by omega)).mono ?_
        rintro e w5 ⟨rfl, hb5, hw5⟩
        have HB5 := Lib.hid hb5
        have HW5 := Lib.hid (HW4.out.trans hw5)
        clear hb5 hw5
        go_wp2_with fail
        go_roundw
        case rel => exact ⟨k + 1, by omega, by go_num, Lib.hid (by rw [HT.out, secsT_snoc, ← HPP.out, HP2.out]; exact HB5.out), HW5⟩
        case measure => simp [Go.RowKit.intOf]; omega
      · obtain rfl : k = ss.length := by omega
        rw [List.take_length] at HB
        have hB := HB3.out
        have d1 : wr.cell? ⟨w.heap.size, 1, none⟩ = some (.slice A' rs.length ca') := by
          have := World.cell?_of_block (a := ⟨w.heap.size, 1, none⟩) (HW.out.block w.heap.size hz2)
          rw [this]
          have := World.cell?_of_block (a := ⟨w.heap.size, 1, none⟩) (HW3.out.block w.heap.size hz2)
          rw [← this]
          exact c1
        clear hbw hB
        go_wp2_with fail
        go_loopw [28] (fun i wr => ∃ k : Nat, k ≤ rs.length ∧ i = .int .i64 (k : Nat) ∧ Hid (Bld wr g (secsT ss ++ itsT (xsOf (rs.take k)))) ∧ Hid (Below g w2 wr)) (fun i _ => (rs.length - Go.RowKit.intOf i).toNat)
        case atStart => exact ⟨0, Nat.zero_le _, rfl, Lib.hid (by simpa [itsT] using HB.out), HW⟩
        case round =>
          obtain ⟨k, hk, rfl, HB, HW⟩ := hrel
          have hbw := HW2.out.trans (HW.out.mono (Nat.le_of_lt hz2))
          by_cases hlt : k < rs.length
          · obtain ⟨b, off, rfl, hb, hlay⟩ := H3'.out (by omega)
            have hrow := (hlay.of_heap (hbw.block b hb)).elem hiC_len k hlt
            have HT := Lib.hid (List.take_succ_eq_append_getElem hlt)
            have hmem := List.getElem_mem hlt
            have hpl := itsT_len (xs := xsOf (rs.take k)) (fun x hx => by
              obtain ⟨y, hy, rfl⟩ := List.mem_map.1 hx
              exact HI.out y (List.mem_of_mem_take hy))
            have hkl := List.length_take_le k rs
            have hsl := secsT_len ss
            have hok := (HH.out.ok rs[k] hmem).below hbw
            have hio := HI.out rs[k] hmem
            obtain ⟨r, hr⟩ : ∃ r, r = rs[k] := ⟨_, rfl⟩
            rw [← hr] at hrow HT hok hio
            have HROW := Lib.hid hrow
            have hN4 := Blk.new wr 62 zeroHi
            have hW4 := (Below.refl wr.heap.size wr).alloc (Nat.le_refl _) (.cells zeroHi 62)
            obtain ⟨w4, hst4⟩ : ∃ w4, wr.alloc (.cells zeroHi 62) = w4 := ⟨_, rfl⟩
            rw [hst4] at hN4 hW4
            have HN5 := Lib.hid (hN4.row (hiA r))
            have hW5 := below_setRow hW4 (g := wr.heap.size) (Nat.le_refl _) (hiA r)
            have HN4 := Lib.hid hN4
            have HB5 := Lib.hid (HB.out.below hW5)
            have HW5 := Lib.hid (HW.out.trans (hW5.mono (Nat.le_of_lt HB.out.lt)))
            have HL := Lib.hid (hline_ok r (w4.setRow wr.heap.size (hiA r)) (hok.below hW5) hio)
            have htl := itT_max r.x hio
            obtain ⟨t, ht⟩ : ∃ t, t = itT r.x := ⟨_, rfl⟩
            rw [← ht] at HL htl
            obtain ⟨p2, g2⟩ : ∃ p, p = t ++ [10] := ⟨_, rfl⟩
            have e2 : ∀ w, (Op.stringOp .add ⟨t.toArray⟩ ⟨#[10]⟩).run Tryz.prog w = .ok (strV p2) w := fun w => by rw [g2]; exact str_add t [10] (by simp; omega) w
            have HP2 := Lib.hid (show itT r.x ++ [10] = p2 by rw [g2, ht])
            have hp2 : p2.length ≤ 30001 := by simp [g2]; omega
            obtain ⟨p, hpp⟩ : ∃ p, p = secsT ss ++ itsT (xsOf (rs.take k)) := ⟨_, rfl⟩
            have hpl2 : p.length ≤ 40000000 := by
              rw [hpp, List.length_append]
              have hxl : (xsOf (rs.take k)).length = (rs.take k).length := by simp [xsOf]
              rw [hxl] at hpl
              omega
            rw [← hpp] at HB HB5
            have HPP := Lib.hid hpp
            clear hrow hr hlay hN4 hW4 hW5 hok hio hmem ht hpp hpl hkl hsl g2 hbw htl
            go_wp2_with (first
              | (refine load_arr rfl 62 (.tmp 30) rfl b (off + k * 29) rfl (hiA r) _ HROW.out Tryz.underlying62 rfl (hit_size r) ?_)
              | (refine wpList_store_row rfl 62 (.tmp 8) (.tmp 31) rfl wr.heap.size (hiA r) rfl rfl 62 zeroHi HN4.out (hit_size r) rfl (hiA_one r) ?_)
              | (refine load_bx rfl 62 (.tmp 8) rfl wr.heap.size rfl 62 (hiA r) _ HN5.out Tryz.underlying62 rfl (hit_size r) ?_))
            refine HL.out.mono ?_
            rintro e w6 ⟨rfl, hb6⟩
            have HB6 := Lib.hid (HB5.out.below hb6)
            have HW6 := Lib.hid (HW5.out.trans (hb6.mono (Nat.le_of_lt HB5.out.lt)))
            clear hb6
            go_wp2_with fail
            refine (wstr_ok _ _ p p2 HB6.out (by omega)).mono ?_
            rintro e w7 ⟨rfl, hb7, hw7⟩
            have HB7 := Lib.hid hb7
            have HW7 := Lib.hid (HW6.out.trans hw7)
            clear hb7 hw7
            go_wp2_with fail
            go_roundw
            case rel => exact ⟨k + 1, by omega, by go_num, Lib.hid (by
              have h := HB7.out
              rw [← HP2.out, HPP.out, List.append_assoc, ← itsT_snoc] at h
              rw [HT.out]
              simpa [xsOf] using h), HW7⟩
            case measure => simp [Go.RowKit.intOf]; omega
          · obtain rfl : k = rs.length := by omega
            rw [List.take_length] at HB
            have HWF := Lib.hid hbw
            clear hbw
            go_wp2_with fail
            refine (bstr_ok _ _ _ HB.out).mono ?_
            rintro e w4 h
            have hh : e = .returned (strV (secsT ss ++ itsT (xsOf rs))) ∧ Below w.heap.size wr w4 := by
              exact ⟨h.1, h.2.2.mono (Nat.le_of_lt hz2)⟩
            obtain ⟨rfl, hb4⟩ := hh
            have HW4 := Lib.hid (HWF.out.trans hb4)
            clear hb4 h
            go_wp2_with fail
            go_ret2
            exact ⟨rfl, HW4.out⟩
end Go.Proofs.YtldjgpnbkbmgoaaGreatDoor

namespace Go.Proofs.YtldjgpnbkbmgoaaGreatDoor
open Go.RowKit Go.Lib
attribute [local go_sem ↓] load_req stop_req
abbrev jC (vs vi : Value) : Array Value := #[vs, vi]
abbrev nilV : Value := .slice none 0 0
def fC (e : Int) (line : Nat) : Array Value := #[.int .i64 e, .int .i64 line, .int .i64 (if e = 0 then 0 else 1)]
theorem job_size (vs vi : Value) : (Tryz.prog.info? 26).map (·.size) = some (jC vs vi).size := by
  show _ = some 2
  kernel_rfl
theorem own_apart {α β : Type} {enc : α → List Value} {enc' : β → List Value} {k k' : Nat} {e e' : TypeId} {w : World} {base base' : Nat} {v v' : Value} {l : List α} {l' : List β} (h : Own enc k e w base v l) (h' : Own enc' k' e' w base' v' l') (hne : e ≠ e') : v.ownBlock = none ∨ v.ownBlock ≠ v'.ownBlock := by
  rcases h.2 with ⟨rfl, _⟩ | ⟨g, cap, cur, rfl, _, hg, _⟩
  · exact .inl rfl
  · right
    rcases h'.2 with ⟨rfl, _⟩ | ⟨g', cap', cur', rfl, _, hg', _⟩
    · simp [Value.ownBlock]
    · simp only [Value.ownBlock, ne_eq, Option.some.injEq]
      rintro rfl
      rw [hg] at hg'
      simp only [Option.some.injEq, Obj.cells.injEq] at hg'
      exact hne hg'.2.1
theorem hi_fill (r : HRw) : Instr.fill (fun i => some (i * 29, 29)) ((Array.range (1 * 29)).map ((Value.agg (hiA z0)).cells[· % (Value.agg (hiA z0)).cells.size]!)) [(0, Value.agg (hiA r))] = some (hiA r) := by kernel_rfl
abbrev byOwn (w wx : World) (rs : List HRw) : Prop := ∀ r ∈ rs, Own byC 1 5 wx w.heap.size (.slice r.A r.x.bs.length r.cap) r.x.bs
structure PS (w wx : World) (j : Nat) (vs vi : Value) (ss : List Nat) (rs : List HRw) : Prop where
  r2 : Blk wx w.heap.size 26 (jC nilV nilV)
  r3 : Blk wx (w.heap.size + 1) 31 (fC 0 0)
  jb : Blk wx j 26 (jC vs vi)
  s : Own usC 1 49 wx w.heap.size vs ss
  i : Own hiC 29 62 wx w.heap.size vi rs
  by_ : byOwn w wx rs
  bel : Below w.heap.size w wx
  hj : w.heap.size + 2 = j
theorem PS.keep {w wx wy : World} {j : Nat} {vs vi : Value} {ss : List Nat} {rs : List HRw} (h : PS w wx j vs vi ss rs) (hb : Below wx.heap.size wx wy) : PS w wy j vs vi ss rs :=
  ⟨h.r2.below hb h.r2.lt, h.r3.below hb h.r3.lt, h.jb.below hb h.jb.lt, h.s.below hb, h.i.below hb, fun r hr => (h.by_ r hr).below hb, h.bel.trans (hb.mono h.bel.size), h.hj⟩
theorem PS.drewN {w wx : World} {j : Nat} {vs vi : Value} {ss : List Nat} {rs : List HRw} (h : PS w wx j vs vi ss rs) (n : Nat) : PS w (wx.drewN n) j vs vi ss rs := h.keep (below_drewN (Below.refl _ _) n)
theorem ne_row {b : Nat} {v : Value} (h : v.ownBlock ≠ some b) : some b ≠ v.ownBlock := fun e => h e.symm
theorem PS.item {w wx wy : World} {j : Nat} {vs vi : Value} {ss : List Nat} {rs : List HRw} (h : PS w wx j vs vi ss rs) (r0 : HRw) (h0 : Own byC 1 5 wx w.heap.size (.slice r0.A r0.x.bs.length r0.cap) r0.x.bs) {v' : Value} (hown : Own hiC 29 62 wy w.heap.size v' (rs ++ [r0])) (hg : wx.grownBy wy vi.ownBlock) :
    PS w (wy.setCell ⟨j, 1, none⟩ v') j vs v' ss (rs ++ [r0]) := by
  have h1 := h.hj
  have hb : Below w.heap.size wx wy := below_of_grown hg h.bel.size (fun k hk => (h.i.lt k hk).1)
  have r2 := h.r2.grown hg (ne_row (h.i.ne_blk h.r2 (by decide)))
  have r3 := h.r3.grown hg (ne_row (h.i.ne_blk h.r3 (by decide)))
  have jb := h.jb.grown hg (ne_row (h.i.ne_blk h.jb (by decide)))
  have s := h.s.grown hg (own_apart h.s h.i (by decide))
  exact ⟨r2.far (p := ⟨j, 1, none⟩) (show w.heap.size ≠ j by omega) _, r3.far (p := ⟨j, 1, none⟩) (show w.heap.size + 1 ≠ j by omega) _, jb.put 1 _, s.set _ (s.ne_blk jb (by decide)), hown.set _ (hown.ne_blk jb (by decide)),
    fun r hr => by
      have b : Own byC 1 5 wy w.heap.size (.slice r.A r.x.bs.length r.cap) r.x.bs := by
        rcases List.mem_append.1 hr with hr | hr
        · exact (h.by_ r hr).grown hg (own_apart (h.by_ r hr) h.i (by decide))
        · simp only [List.mem_cons, List.not_mem_nil, or_false] at hr
          subst hr
          exact h0.grown hg (own_apart h0 h.i (by decide))
      exact b.set _ (b.ne_blk jb (by decide)),
    (h.bel.trans hb).setCell (p := ⟨j, 1, none⟩) (show w.heap.size ≤ j by omega) _, h.hj⟩
def PaPost (w : World) (p : PRes) (e : Ending) (w' : World) : Prop :=
  ∃ vs vi rs, e = .returned (.tuple #[.agg (jC vs vi), .agg (fC p.err p.line)]) ∧ Own usC 1 49 w' w.heap.size vs p.ss ∧ Own hiC 29 62 w' w.heap.size vi rs ∧ xsOf rs = p.xs ∧ byOwn w w' rs ∧ Below w.heap.size w w'
theorem PS.done {w wx : World} {j : Nat} {vs vi : Value} {ss : List Nat} {rs : List HRw} (h : PS w wx j vs vi ss rs) :
    PaPost w ⟨ss, xsOf rs, 0, 0⟩ (.returned (.tuple #[.agg (jC vs vi), .agg (fC 0 0)])) ((wx.setRow w.heap.size (jC vs vi)).setRow (w.heap.size + 1) (fC 0 0)) := by
  have a2 := h.r2
  have a3 : Blk (wx.setRow w.heap.size (jC vs vi)) (w.heap.size + 1) 31 (fC 0 0) := h.r3.farRow (by omega) _
  have key : ∀ {α : Type} {enc : α → List Value} {k : Nat} {e : TypeId} {v : Value} {l : List α}, Own enc k e wx w.heap.size v l → e ≠ 26 → e ≠ 31 → Own enc k e ((wx.setRow w.heap.size (jC vs vi)).setRow (w.heap.size + 1) (fC 0 0)) w.heap.size v l := by
    intro α enc k e v l ho h1 h2
    have o1 := ho.keep (w' := wx.setRow w.heap.size (jC vs vi)) (fun b hb => setRow_other _ _ _ _ (fun e => ho.ne_blk a2 h1 (by rw [hb, e])))
    exact o1.keep (fun b hb => setRow_other _ _ _ _ (fun e => o1.ne_blk a3 h2 (by rw [hb, e])))
  exact ⟨vs, vi, rs, rfl, key h.s (by decide) (by decide), key h.i (by decide) (by decide), rfl, fun r hr => key (h.by_ r hr) (by decide) (by decide), below_setRow (below_setRow h.bel (Nat.le_refl _) _) (by omega) _⟩
structure PR (l s : List UInt8) (row : Nat) (ss : List Nat) (rs : List HRw) : Prop where
  eq : parse l = parseF (s.length + 1) row ss (xsOf rs) s
  len : s.length ≤ l.length
  s8 : ss.length ≤ 8
  x1 : rs.length ≤ 1000
  row_ : row + s.length ≤ l.length + 1
theorem PR.start {l : List UInt8} (h : l.length ≤ 65536) : PR l l 1 [] [] := ⟨parse_small h, Nat.le_refl _, by simp, by simp, by omega⟩
theorem PR.empty {l : List UInt8} {row : Nat} {ss : List Nat} {rs : List HRw} (h : PR l [] row ss rs) (h1 : ss = []) : parse l = ⟨[], [], 60, row⟩ := by
  rw [h.eq]
  unfold parseF
  rw [if_pos rfl, if_pos h1]
theorem PR.all {l : List UInt8} {row : Nat} {ss : List Nat} {rs : List HRw} (h : PR l [] row ss rs) (h1 : ss ≠ []) : parse l = ⟨ss, xsOf rs, 0, 0⟩ := by
  rw [h.eq]
  unfold parseF
  rw [if_pos rfl, if_neg h1]
theorem PR.bad {l s : List UInt8} {row : Nat} {ss : List Nat} {rs : List HRw} (h : PR l s row ss rs) (h0 : s ≠ []) (h1 : (cutC 10 s).2.2 = true) (h2 : ¬ ((secL (cutC 10 s).1).2 = true ∧ rs = [] ∧ ss.length < 8)) (h3 : (itL (cutC 10 s).1).2 = false ∨ ss = []) : parse l = ⟨[], [], 60, row⟩ := by
  rw [h.eq, parseF, if_neg h0, if_neg (by rw [h1]; decide), if_neg (by simpa [xsOf] using h2), if_pos h3]
theorem PR.many {l s : List UInt8} {row : Nat} {ss : List Nat} {rs : List HRw} (h : PR l s row ss rs) (h0 : s ≠ []) (h1 : (cutC 10 s).2.2 = true) (h2 : ¬ ((secL (cutC 10 s).1).2 = true ∧ rs = [] ∧ ss.length < 8)) (h3 : ¬ ((itL (cutC 10 s).1).2 = false ∨ ss = [])) (h4 : rs.length = 1000) : parse l = ⟨[], [], 2, row⟩ := by
  rw [h.eq, parseF, if_neg h0, if_neg (by rw [h1]; decide), if_neg (by simpa [xsOf] using h2), if_neg h3, if_pos (by simpa [xsOf] using h4)]
theorem PR.item {l s : List UInt8} {row : Nat} {ss : List Nat} {rs : List HRw} (h : PR l s row ss rs) (h0 : s ≠ []) (h1 : (cutC 10 s).2.2 = true) (h2 : ¬ ((secL (cutC 10 s).1).2 = true ∧ rs = [] ∧ ss.length < 8)) (h3 : ¬ ((itL (cutC 10 s).1).2 = false ∨ ss = [])) (h4 : rs.length ≠ 1000) (r : HRw) (hr : r.x = (itL (cutC 10 s).1).1) :
    PR l (cutC 10 s).2.1 (row + 1) ss (rs ++ [r]) := by
  have hl := cutC_len 10 s h1
  refine ⟨?_, by have := h.len; omega, h.s8, by have := h.x1; simp; omega, by have := h.row_; omega⟩
  rw [h.eq, parseF, if_neg h0, if_neg (by rw [h1]; decide), if_neg (by simpa [xsOf] using h2), if_neg h3, if_neg (by simpa [xsOf] using h4)]
  rw [show xsOf (rs ++ [r]) = xsOf rs ++ [(itL (cutC 10 s).1).1] by simp [xsOf, hr]]
  exact parseF_fuel _ _ _ _ _ _ (by omega) (by omega)
end Go.Proofs.YtldjgpnbkbmgoaaGreatDoor

