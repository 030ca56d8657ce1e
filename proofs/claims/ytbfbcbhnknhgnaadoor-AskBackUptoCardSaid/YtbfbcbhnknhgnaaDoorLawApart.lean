/-
  The law AskApart: unlike requests have unlike lines. Conditions: none.
-/
import Derived.Test.YtbfbcbhnknhgnaaDoorKnownA
import Derived.Test.YtbfbcbhnknhgnaaDoorReadLaw
import Derived.Test.YtbfbcbhnknhgnaaDoorArgs
namespace Go.Proofs.YtbfbcbhnknhgnaaDoor
open Go.RowKit
attribute [local go_sem ↓] load_req stop_req

theorem lineE_ok {q : Req} (h : encOk q = true) : lineE q = 0 := by unfold lineE; rw [if_pos h]
theorem lineE_no {q : Req} (h : encOk q = false) : lineE q = 1 := by unfold lineE; rw [h]; rfl
theorem lineT_ok {q : Req} (h : encOk q = true) : lineT q = lineQ q := by unfold lineT; rw [if_pos h]
theorem lineT_no {q : Req} (h : encOk q = false) : lineT q = [] := by unfold lineT; rw [h]; rfl
theorem reqEq_refl (q : Req) : reqEq q q = true := decide_eq_true rfl
set_option maxRecDepth 100000 in
set_option maxHeartbeats 4000000 in
theorem law_apart (q r : Req) (hq : q.fits) (hr : r.fits) (w : World) : Calls Tryd.prog 5 #[.agg (rqC q), .agg (rqC r)] w (Holds w) := by
  have hb0 := Blk.new w 30 (rqC q)
  have hW1 := (Below.refl w.heap.size w).alloc (Nat.le_refl _) (.cells (rqC q) 30)
  have hz1 : (w.alloc (.cells (rqC q) 30)).heap.size = w.heap.size + 1 := by simp
  obtain ⟨w1, hst1⟩ : ∃ w1, w.alloc (.cells (rqC q) 30) = w1 := ⟨_, rfl⟩
  rw [hst1] at hb0 hW1 hz1
  have hb1 := Blk.new w1 30 (rqC r)
  have HB0 := Lib.hid (hb0.alloc (.cells (rqC r) 30))
  have HW2 := Lib.hid (hW1.alloc (by omega) (.cells (rqC r) 30))
  obtain ⟨w2, hst2⟩ : ∃ w2, w1.alloc (.cells (rqC r) 30) = w2 := ⟨_, rfl⟩
  rw [hst2] at hb1 HB0 HW2
  have HB1 := Lib.hid hb1
  have HQ := Lib.hid hq
  have HR := Lib.hid hr
  clear hb0 hb1 hW1 hq hr hz1
  have l0 := loadReq_row HB0.out
  go_enter Tryd.func5, Tryd.ntmps5
  go_wp2_with fail
  refine (Line_ok q w2 HQ.out).mono ?_
  rintro e w3 ⟨rfl, hb3⟩
  have HB0 := Lib.hid (HB0.out.below hb3 HB0.out.lt)
  have HB1 := Lib.hid (HB1.out.below hb3 HB1.out.lt)
  have HW3 := Lib.hid (HW2.out.trans (hb3.mono HW2.out.size))
  clear hb3 l0
  have l1 := loadReq_row HB1.out
  go_wp2_with fail
  refine (Line_ok r w3 HR.out).mono ?_
  rintro e w4 ⟨rfl, hb4⟩
  have HB0 := Lib.hid (HB0.out.below hb4 HB0.out.lt)
  have HB1 := Lib.hid (HB1.out.below hb4 HB1.out.lt)
  have HW4 := Lib.hid (HW3.out.trans (hb4.mono HW3.out.size))
  clear hb4 l1
  have l0 := loadReq_row HB0.out
  have l1 := loadReq_row HB1.out
  cases hoq : encOk q
  · rw [lineE_no hoq, lineT_no hoq]
    clear hoq
    go_wp2_with fail
    refine (aknown_ok _).mono ?_
    rintro e w5 ⟨rfl, hb5⟩
    have HW5 := Lib.hid (HW4.out.trans (hb5.mono HW4.out.size))
    clear hb5
    go_wp2_with fail
    go_ret
    exact ⟨rfl, HW5.out⟩
  · rw [lineE_ok hoq, lineT_ok hoq]
    cases hor : encOk r
    · rw [lineE_no hor, lineT_no hor]
      clear hoq hor
      go_wp2_with fail
      refine (aknown_ok _).mono ?_
      rintro e w5 ⟨rfl, hb5⟩
      have HW5 := Lib.hid (HW4.out.trans (hb5.mono HW4.out.size))
      clear hb5
      go_wp2_with fail
      go_ret
      exact ⟨rfl, HW5.out⟩
    · rw [lineE_ok hor, lineT_ok hor]
      have hap := line_apart hoq hor
      have hs : (lineQ q == lineQ r) = reqEq q r := by
        unfold reqEq
        by_cases h : q = r
        · rw [decide_eq_true h, beq_iff_eq]
          exact hap.2 h
        · rw [decide_eq_false h]
          simpa using fun e => h (hap.1 e)
      obtain ⟨x, hx⟩ : ∃ x, lineQ q = x := ⟨_, rfl⟩
      obtain ⟨y, hy⟩ : ∃ y, lineQ r = y := ⟨_, rfl⟩
      rw [hx, hy] at hs ⊢
      obtain ⟨b, hb⟩ : ∃ b, reqEq q r = b := ⟨_, rfl⟩
      rw [hb] at hs
      clear hoq hor hap hx hy
      cases b
      all_goals
        go_wp2_with fail
        refine (aknown_ok _).mono ?_
        rintro e w5 ⟨rfl, hb5⟩
        have HW5 := Lib.hid (HW4.out.trans (hb5.mono HW4.out.size))
        clear hb5
        go_wp2_with fail
        go_ret
        exact ⟨rfl, HW5.out⟩
end Go.Proofs.YtbfbcbhnknhgnaaDoor
