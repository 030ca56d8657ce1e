/-
  The reference finds two answers of the same parts to be the same; whether an answer is small. Conditions: as each states.
  The laws AskAnswers and AskTold. Conditions: as each states.
-/
import Derived.Test.YtbfbcbhnknhgnaaDoorReadAns
import Derived.Test.YtbfbcbhnknhgnaaDoorRefAns
import Derived.Test.YtbfbcbhnknhgnaaDoorKnownA
import Derived.Test.YtbfbcbhnknhgnaaDoorArgs
namespace Go.Proofs.YtbfbcbhnknhgnaaDoor
open Go.RowKit

def fewB (a : Ans) : Bool := decide ((a.seen.length : Int) ≤ 70) && decide ((a.events.length : Int) ≤ 70)
theorem few_ok (w : World) (a : Ans) (sv ev : Value) (hs : Sl snC w w.heap.size sv a.seen) (he : Sl evC w w.heap.size ev a.events) :
    Calls Tryd.prog 15 #[.agg (anC a sv ev)] w (BPost w (fewB a)) := by
  obtain ⟨sA, sC, rfl, hs1, hs2, hs3⟩ := hs
  obtain ⟨eA, eC, rfl, he1, he2, he3⟩ := he
  clear hs3 he3
  unfold maxLen at hs2 he2
  have HB := Lib.hid ((Below.refl w.heap.size w).alloc (Nat.le_refl _) (.cells (anC a (.slice sA a.seen.length sC) (.slice eA a.events.length eC)) 48))
  by_cases h1 : (a.seen.length : Int) ≤ 70
  · have HQ := Lib.hid (show fewB a = decide ((a.events.length : Int) ≤ 70) by unfold fewB; simp [h1])
    go_enter Tryd.func15, Tryd.ntmps15
    go_wp2_with fail
    go_ret
    exact ⟨by rw [HQ.out]; rfl, HB.out⟩
  · have h2 : (70 : Int) < (a.seen.length : Int) := by omega
    have HQ := Lib.hid (show fewB a = false by unfold fewB; simp [h1])
    clear h1
    go_enter Tryd.func15, Tryd.ntmps15
    go_wp2_with fail
    go_ret
    exact ⟨by rw [HQ.out]; rfl, HB.out⟩

theorem eq4_self (a b c d : Int) : eq4 a b c d a b c d = true := by unfold eq4; simp
theorem eq6_self (a b c d e f : Int) : eq6 a b c d e f a b c d e f = true := by unfold eq6; simp

set_option maxRecDepth 100000 in
set_option maxHeartbeats 4000000 in
theorem ransame_ok (w : World) (a : Ans) (sv ev sv' ev' : Value) (hs : Sl snC w w.heap.size sv a.seen) (he : Sl evC w w.heap.size ev a.events) (hs' : Sl snC w w.heap.size sv' a.seen) (he' : Sl evC w w.heap.size ev' a.events) :
    Calls Tryd.prog 20 #[.agg (anC a sv ev), .agg (anC a sv' ev')] w (BPost w true) := by
  obtain ⟨sA, sC, rfl, hs1, hs2, hs3⟩ := hs
  obtain ⟨eA, eC, rfl, he1, he2, he3⟩ := he
  obtain ⟨sA', sC', rfl, hs1', hs2', hs3'⟩ := hs'
  obtain ⟨eA', eC', rfl, he1', he2', he3'⟩ := he'
  unfold maxLen at hs2 he2 hs2' he2'
  have HS := Lib.hid hs3
  have HE := Lib.hid he3
  have HS' := Lib.hid hs3'
  have HE' := Lib.hid he3'
  have hb0 := Blk.new w 48 (anC a (.slice sA a.seen.length sC) (.slice eA a.events.length eC))
  have hb1 := Blk.new (w.alloc (.cells (anC a (.slice sA a.seen.length sC) (.slice eA a.events.length eC)) 48)) 48 (anC a (.slice sA' a.seen.length sC') (.slice eA' a.events.length eC'))
  have HB0 := hb0.alloc (.cells (anC a (.slice sA' a.seen.length sC') (.slice eA' a.events.length eC')) 48)
  have hbel := ((Below.refl w.heap.size w).alloc (Nat.le_refl _) (.cells (anC a (.slice sA a.seen.length sC) (.slice eA a.events.length eC)) 48)).alloc (by simp) (.cells (anC a (.slice sA' a.seen.length sC') (.slice eA' a.events.length eC')) 48)
  obtain ⟨p, hp⟩ : ∃ p, w.heap.size = p := ⟨_, rfl⟩
  have hz : (w.alloc (.cells (anC a (.slice sA a.seen.length sC) (.slice eA a.events.length eC)) 48)).heap.size = p + 1 := by simp [hp]
  obtain ⟨w1, hst1⟩ : ∃ w1, w.alloc (.cells (anC a (.slice sA a.seen.length sC) (.slice eA a.events.length eC)) 48) = w1 := ⟨_, rfl⟩
  rw [hst1] at hb1 HB0 hbel hz
  obtain ⟨w2, hst2⟩ : ∃ w2, w1.alloc (.cells (anC a (.slice sA' a.seen.length sC') (.slice eA' a.events.length eC')) 48) = w2 := ⟨_, rfl⟩
  rw [hst2] at hb1 HB0 hbel
  rw [hz] at hb1
  rw [hp] at HB0 hb0
  have H0 := Lib.hid HB0
  have H1 := Lib.hid hb1
  have HW := Lib.hid hbel
  clear hb0 hb1 HB0 hbel hs3 he3 hs3' he3'
  have c0 := (show World.cell? _ ⟨p, 0, none⟩ = some (.int .i64 a.status) from H0.out.is 0 rfl)
  have c1 := (show World.cell? _ ⟨p, 1, none⟩ = some (.int .u64 (a.secret : Nat)) from H0.out.is 1 rfl)
  have c2 := (show World.cell? _ ⟨p, 2, none⟩ = some (.int .i64 a.id) from H0.out.is 2 rfl)
  have c3 := (show World.cell? _ ⟨p, 3, none⟩ = some (.int .i64 a.ax) from H0.out.is 3 rfl)
  have c4 := (show World.cell? _ ⟨p, 4, none⟩ = some (.int .i64 a.ay) from H0.out.is 4 rfl)
  have c5 := (show World.cell? _ ⟨p, 5, none⟩ = some (.int .i64 a.label) from H0.out.is 5 rfl)
  have c6 := (show World.cell? _ ⟨p, 6, none⟩ = some (.int .i64 a.x0) from H0.out.is 6 rfl)
  have c7 := (show World.cell? _ ⟨p, 7, none⟩ = some (.int .i64 a.y0) from H0.out.is 7 rfl)
  have c8 := (show World.cell? _ ⟨p, 8, none⟩ = some (.int .i64 a.x1) from H0.out.is 8 rfl)
  have c9 := (show World.cell? _ ⟨p, 9, none⟩ = some (.int .i64 a.y1) from H0.out.is 9 rfl)
  have c10 := (show World.cell? _ ⟨p, 10, none⟩ = some (.slice sA a.seen.length sC) from H0.out.is 10 rfl)
  have c11 := (show World.cell? _ ⟨p, 11, none⟩ = some (.slice eA a.events.length eC) from H0.out.is 11 rfl)
  have d0 := (show World.cell? _ ⟨p + 1, 0, none⟩ = some (.int .i64 a.status) from H1.out.is 0 rfl)
  have d1 := (show World.cell? _ ⟨p + 1, 1, none⟩ = some (.int .u64 (a.secret : Nat)) from H1.out.is 1 rfl)
  have d2 := (show World.cell? _ ⟨p + 1, 2, none⟩ = some (.int .i64 a.id) from H1.out.is 2 rfl)
  have d3 := (show World.cell? _ ⟨p + 1, 3, none⟩ = some (.int .i64 a.ax) from H1.out.is 3 rfl)
  have d4 := (show World.cell? _ ⟨p + 1, 4, none⟩ = some (.int .i64 a.ay) from H1.out.is 4 rfl)
  have d5 := (show World.cell? _ ⟨p + 1, 5, none⟩ = some (.int .i64 a.label) from H1.out.is 5 rfl)
  have d6 := (show World.cell? _ ⟨p + 1, 6, none⟩ = some (.int .i64 a.x0) from H1.out.is 6 rfl)
  have d7 := (show World.cell? _ ⟨p + 1, 7, none⟩ = some (.int .i64 a.y0) from H1.out.is 7 rfl)
  have d8 := (show World.cell? _ ⟨p + 1, 8, none⟩ = some (.int .i64 a.x1) from H1.out.is 8 rfl)
  have d9 := (show World.cell? _ ⟨p + 1, 9, none⟩ = some (.int .i64 a.y1) from H1.out.is 9 rfl)
  have d10 := (show World.cell? _ ⟨p + 1, 10, none⟩ = some (.slice sA' a.seen.length sC') from H1.out.is 10 rfl)
  have d11 := (show World.cell? _ ⟨p + 1, 11, none⟩ = some (.slice eA' a.events.length eC') from H1.out.is 11 rfl)
  have q1 := eq4_self a.id a.ax a.ay a.label
  have q2 := eq4_self a.x0 a.y0 a.x1 a.y1
  go_enter Tryd.func20, Tryd.ntmps20
  go_wp2_with fail
  clear c0 c1 c2 c3 c4 c5 c6 c7 c8 c9 d0 d1 d2 d3 d4 d5 d6 d7 d8 d9 q1 q2 hst1 hst2 hz
  go_loopw [5] (fun iv wr => ∃ k, k ≤ a.seen.length ∧ iv = .int .i64 (k : Nat) ∧ ∃ m, wr = w2.drewN m) (fun iv _ => (a.seen.length - intOf iv).toNat)
  case atStart => exact ⟨0, Nat.zero_le _, rfl, 0, rfl⟩
  case round =>
    obtain ⟨k, hk, rfl, m, hm⟩ := hrel
    have e10 : wr.cell? ⟨p, 10, none⟩ = some (.slice sA a.seen.length sC) := by rw [hm]; exact c10
    have f10 : wr.cell? ⟨p + 1, 10, none⟩ = some (.slice sA' a.seen.length sC') := by rw [hm]; exact d10
    by_cases hlt : k < a.seen.length
    · obtain ⟨b, off, rfl, hbb, hlay⟩ := HS.out (by omega)
      obtain ⟨b', off', rfl, hbb', hlay'⟩ := HS'.out (by omega)
      have hl : Lay wr b off (a.seen.flatMap snC) := by rw [hm]; exact (hlay.of_heap (HW.out.block b hbb))
      have hl' : Lay wr b' off' (a.seen.flatMap snC) := by rw [hm]; exact (hlay'.of_heap (HW.out.block b' hbb'))
      have hel := hl.elem snC_len k hlt
      have hel' := hl'.elem snC_len k hlt
      obtain ⟨x, hx⟩ : ∃ x, x = a.seen[k] := ⟨_, rfl⟩
      rw [← hx] at hel hel'
      have x0 := hel 0 _ rfl
      have x1 := hel 1 _ rfl
      have x2 := hel 2 _ rfl
      have x3 := hel 3 _ rfl
      have x4 := hel 4 _ rfl
      have x5 := hel 5 _ rfl
      have y0 := hel' 0 _ rfl
      have y1 := hel' 1 _ rfl
      have y2 := hel' 2 _ rfl
      have y3 := hel' 3 _ rfl
      have y4 := hel' 4 _ rfl
      have y5 := hel' 5 _ rfl
      rw [Nat.add_zero] at x0 y0
      have hki : (k : Int) < (a.seen.length : Int) := by omega
      have q6 := eq6_self x.id x.level x.x0 x.y0 x.x1 x.y1
      have HM := Lib.hid hm
      clear hlay hlay' hl hl' hel hel' hx hm c10 d10
      go_wp2_with fail
      go_quiet (fail)
      go_wp2_with fail
      go_roundw
      case rel => exact ⟨k + 1, by omega, by go_num, _, by rw [HM.out, World.drewN_drewN]⟩
      case measure => simp [intOf]; omega
    · obtain rfl : k = a.seen.length := by omega
      have e11 : wr.cell? ⟨p, 11, none⟩ = some (.slice eA a.events.length eC) := by rw [hm]; exact c11
      have f11 : wr.cell? ⟨p + 1, 11, none⟩ = some (.slice eA' a.events.length eC') := by rw [hm]; exact d11
      have HM := Lib.hid hm
      clear hm
      obtain ⟨wo, rfl⟩ : ∃ wo : World, wo = wr := ⟨_, rfl⟩
      go_wp2_with fail
      go_loopw [6] (fun iv wr => ∃ k, k ≤ a.events.length ∧ iv = .int .i64 (k : Nat) ∧ ∃ m, wr = w2.drewN m) (fun iv _ => (a.events.length - intOf iv).toNat)
      case atStart => exact ⟨0, Nat.zero_le _, rfl, _, HM.out⟩
      case round =>
        obtain ⟨k, hk, rfl, m2, hm⟩ := hrel
        have e11 : wr.cell? ⟨p, 11, none⟩ = some (.slice eA a.events.length eC) := by rw [hm]; exact c11
        have f11 : wr.cell? ⟨p + 1, 11, none⟩ = some (.slice eA' a.events.length eC') := by rw [hm]; exact d11
        by_cases hlt : k < a.events.length
        · obtain ⟨b, off, rfl, hbb, hlay⟩ := HE.out (by omega)
          obtain ⟨b', off', rfl, hbb', hlay'⟩ := HE'.out (by omega)
          have hl : Lay wr b off (a.events.flatMap evC) := by rw [hm]; exact (hlay.of_heap (HW.out.block b hbb))
          have hl' : Lay wr b' off' (a.events.flatMap evC) := by rw [hm]; exact (hlay'.of_heap (HW.out.block b' hbb'))
          have hel := hl.elem evC_len k hlt
          have hel' := hl'.elem evC_len k hlt
          obtain ⟨x, hx⟩ : ∃ x, x = a.events[k] := ⟨_, rfl⟩
          rw [← hx] at hel hel'
          have x0 := hel 0 _ rfl
          have x1 := hel 1 _ rfl
          have x2 := hel 2 _ rfl
          have x3 := hel 3 _ rfl
          have y0 := hel' 0 _ rfl
          have y1 := hel' 1 _ rfl
          have y2 := hel' 2 _ rfl
          have y3 := hel' 3 _ rfl
          rw [Nat.add_zero] at x0 y0
          have hki : (k : Int) < (a.events.length : Int) := by omega
          have q6 := eq4_self x.user x.op x.status x.tick
          have HM2 := Lib.hid hm
          clear hlay hlay' hl hl' hel hel' hx hm c10 d10 c11 d11 e10 f10
          go_wp2_with fail
          go_quiet (fail)
          go_wp2_with fail
          go_roundw
          case rel => exact ⟨k + 1, by omega, by go_num, _, by rw [HM2.out, World.drewN_drewN]⟩
          case measure => simp [intOf]; omega
        · obtain rfl : k = a.events.length := by omega
          have HM2 := Lib.hid (show Below w.heap.size w wr by rw [hm]; exact below_drewN HW.out m2)
          clear hm
          go_wp2_with fail
          go_ret
          exact ⟨rfl, HM2.out⟩
end Go.Proofs.YtbfbcbhnknhgnaaDoor

namespace Go.Proofs.YtbfbcbhnknhgnaaDoor
open Go.RowKit

theorem Sl.isl {α : Type} {enc : α → List Value} {w : World} {B : Nat} {v : Value} {l : List α} (h : Sl enc w B v l) : IsSl v := by
  obtain ⟨A, c, rfl, _⟩ := h
  exact ⟨_, _, _, rfl⟩
theorem AB.sl {w wx : World} {ab : Nat} {cs : Array Value} {α : Type} {enc : α → List Value} {v : Value} {l : List α} (h : AB w wx ab cs) (hs : Sl enc w w.heap.size v l) : Sl enc wx wx.heap.size v l := (hs.below h.bel).more h.bel.size
theorem AB.stored {w1 wa wb : World} {cs : Array Value} {Z : Array Value} (ha : w1.alloc (.cells Z 48) = wa) (hb : wa.setRow w1.heap.size cs = wb) : AB w1 wb w1.heap.size cs := by
  subst ha
  subst hb
  exact ⟨(Blk.new w1 _ _).row cs, below_setRow ((Below.refl _ _).alloc (Nat.le_refl _) _) (Nat.le_refl _) cs⟩

theorem may_status {a : Ans} (h : mayB a = true) : 0 ≤ a.status ∧ a.status ≤ 12 := by
  unfold mayB at h
  simp only [Bool.and_eq_true, decide_eq_true_eq] at h
  exact h.1
set_option maxRecDepth 100000 in
set_option maxHeartbeats 4000000 in
theorem law_told (l : List UInt8) (w : World) (hl : l.length ≤ 9223372036854775807) : Calls Tryd.prog 7 #[strV l] w (Holds w) := by
  by_cases h3 : (3000 : Int) < (l.length : Int)
  · go_enter Tryd.func7, Tryd.ntmps7
    go_wp2_with fail
    refine (aknown_ok _).mono ?_
    rintro e w1 ⟨rfl, hb⟩
    have HW := Lib.hid hb
    clear hb
    go_wp2_with fail
    go_ret
    exact ⟨rfl, HW.out⟩
  · have h3' : (l.length : Int) ≤ 3000 := by omega
    have HC := Lib.hid (readA_cases l (by omega))
    have HR := Lib.hid (fun w => ReadAnswer_ok l w (by omega))
    clear h3
    go_enter Tryd.func7, Tryd.ntmps7
    go_wp2_with fail
    refine (HR.out _).mono ?_
    rintro e w1 ⟨sv, ev, rfl, hs, he, hb⟩
    rcases HC.out with ⟨z, hz, hm, ht, hn1, hn2, hsec⟩ | hz
    · rw [hz] at hs he ⊢
      have HS := Lib.hid hs
      have HE := Lib.hid he
      have HM := Lib.hid hm
      have HT := Lib.hid ht
      have HSEC := Lib.hid hsec
      have HW := Lib.hid hb
      clear hz hm ht hs he hb hsec HR HC
      have HN := Lib.hid (Blk.new w1 48 zeroAC)
      obtain ⟨wa, hwa⟩ : ∃ x, w1.alloc (.cells zeroAC 48) = x := ⟨_, rfl⟩
      rw [hwa] at HN
      have hwan : w1.alloc (.cells #[.int .i64 0, .int .u64 0, .int .i64 0, .int .i64 0, .int .i64 0, .int .i64 0, .int .i64 0, .int .i64 0, .int .i64 0, .int .i64 0, .slice none 0 0, .slice none 0 0] 48) = wa := hwa
      obtain ⟨wb, hwb⟩ : ∃ x, wa.setRow w1.heap.size (anC z sv ev) = x := ⟨_, rfl⟩
      have HA := Lib.hid (AB.stored hwa hwb)
      clear hwa
      go_wp2_with (first
        | (refine wpList_store_row rfl 48 (.tmp 3) (.tmp 12) rfl w1.heap.size (anC z sv ev) rfl rfl 48 zeroAC HN.out (an_size _ _ _) rfl (an_one HS.out.isl HE.out.isl) ?_)
        | (refine wpList_load_row rfl 48 (.tmp 3) rfl w1.heap.size rfl 48 (anC z sv ev) (0, 0) _ HA.out.blk Tryd.underlying48 rfl (an_size _ _ _) ?_))
      clear hwan hwb HN
      refine (rmay_ok _ z sv ev (HA.out.sl HS.out) (HA.out.sl HE.out) hn1 hn2).mono ?_
      rintro e w2 ⟨rfl, hb⟩
      have HA := Lib.hid (HA.out.below hb)
      clear hb
      rw [mayR_eq, HM.out]
      go_wp2_with (refine load_rowG (by kernel_rfl) 48 (.tmp 3) rfl w1.heap.size rfl 48 (anC z sv ev) (0, 0) _ HA.out.blk Tryd.underlying48 rfl (an_size _ _ _) ?_)
      refine (rans_ok _ z sv ev (HA.out.sl HS.out) (HA.out.sl HE.out) hn1 hn2 (may_status HM.out) HSEC.out).mono ?_
      rintro e w3 ⟨rfl, hb⟩
      have HA := Lib.hid (HA.out.below hb)
      clear hb
      rw [ransT_eq z HM.out, HT.out]
      go_wp2_with fail
      refine (aknown_ok _).mono ?_
      rintro e w4 ⟨rfl, hb⟩
      have HA := Lib.hid (HA.out.below hb)
      clear hb
      go_wp2_with fail
      go_ret
      exact ⟨rfl, HW.out.trans (HA.out.bel.mono HW.out.size)⟩
    · rw [hz] at hs he ⊢
      have HS := Lib.hid hs
      have HE := Lib.hid he
      have HW := Lib.hid hb
      clear hz hs he hb HR HC
      have HN := Lib.hid (Blk.new w1 48 zeroAC)
      obtain ⟨wa, hwa⟩ : ∃ x, w1.alloc (.cells zeroAC 48) = x := ⟨_, rfl⟩
      rw [hwa] at HN
      have hwan : w1.alloc (.cells #[.int .i64 0, .int .u64 0, .int .i64 0, .int .i64 0, .int .i64 0, .int .i64 0, .int .i64 0, .int .i64 0, .int .i64 0, .int .i64 0, .slice none 0 0, .slice none 0 0] 48) = wa := hwa
      obtain ⟨wb, hwb⟩ : ∃ x, wa.setRow w1.heap.size (anC zeroA sv ev) = x := ⟨_, rfl⟩
      have HA := Lib.hid (AB.stored hwa hwb)
      clear hwa
      go_wp2_with (first
        | (refine wpList_store_row rfl 48 (.tmp 3) (.tmp 12) rfl w1.heap.size (anC zeroA sv ev) rfl rfl 48 zeroAC HN.out (an_size _ _ _) rfl (an_one HS.out.isl HE.out.isl) ?_)
        | (refine wpList_load_row rfl 48 (.tmp 3) rfl w1.heap.size rfl 48 (anC zeroA sv ev) (0, 0) _ HA.out.blk Tryd.underlying48 rfl (an_size _ _ _) ?_)
        | (refine load_rowG (by kernel_rfl) 48 (.tmp 3) rfl w1.heap.size rfl 48 (anC zeroA sv ev) (0, 0) _ HA.out.blk Tryd.underlying48 rfl (an_size _ _ _) ?_))
      clear hwan hwb HN
      refine (ransame_ok _ zeroA sv ev nilV nilV (HA.out.sl HS.out) (HA.out.sl HE.out) Sl.nil Sl.nil).mono ?_
      rintro e w2 ⟨rfl, hb⟩
      have HA := Lib.hid (HA.out.below hb)
      clear hb
      go_wp2_with fail
      refine (aknown_ok _).mono ?_
      rintro e w4 ⟨rfl, hb⟩
      have HA := Lib.hid (HA.out.below hb)
      clear hb
      go_wp2_with fail
      go_ret
      exact ⟨rfl, HW.out.trans (HA.out.bel.mono HW.out.size)⟩
end Go.Proofs.YtbfbcbhnknhgnaaDoor
