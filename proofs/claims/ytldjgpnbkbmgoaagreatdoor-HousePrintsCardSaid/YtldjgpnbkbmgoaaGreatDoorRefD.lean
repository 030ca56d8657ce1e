/-
  The reference's Range and Decode. Conditions: as each states.
-/
import Derived.Test.YtldjgpnbkbmgoaaGreatDoorWith
import Derived.Deep.DeepCutAuto
namespace Go.Proofs.YtldjgpnbkbmgoaaGreatDoor
open Go.RowKit Go.Lib

def rangeB (q : Req) : Bool := boxedB q && (decide (q.role ≤ 7) && (decide (q.tier ≤ 7) && (decide (q.label ≤ 7) && (decide (q.rights ≤ 31) && decide (q.zoom ≤ 16)))))
theorem boxedB_not {q : Req} (h5 : q.op ≠ 5) (h13 : q.op ≠ 13) (h15 : q.op ≠ 15) : boxedB q = true := by
  unfold boxedB
  rw [if_neg (by simp [h5, h13, h15])]
theorem boxedB_is {q : Req} (h : q.op = 5 ∨ q.op = 13 ∨ q.op = 15) : boxedB q = boxB q.x0 q.y0 q.x1 q.y1 := by
  unfold boxedB
  rw [if_pos h]

set_option maxRecDepth 100000 in
set_option maxHeartbeats 2000000 in
theorem rrange_ok (q : Req) (w : World) : Calls Tryz.prog 109 #[.agg (rqC q)] w (BPost w (rangeB q)) := by
  have hb := Lib.hid (Blk.new w 60 (rqC q))
  have hW := Lib.hid ((Below.refl w.heap.size w).alloc (Nat.le_refl _) (.cells (rqC q) 60))
  by_cases hq : q.op = 5 ∨ q.op = 13 ∨ q.op = 15
  · have hB := Lib.hid (boxedB_is hq)
    have HX := Lib.hid (show rangeB q = (boxedB q && (decide (q.role ≤ 7) && (decide (q.tier ≤ 7) && (decide (q.label ≤ 7) && (decide (q.rights ≤ 31) && decide (q.zoom ≤ 16)))))) from rfl)
    have hr := fun w => rright_ok q.x0 q.y0 q.x1 q.y1 w
    obtain ⟨bb, hbb⟩ : ∃ b, boxB q.x0 q.y0 q.x1 q.y1 = b := ⟨_, rfl⟩
    rw [hbb] at hB
    rw [hB.out] at HX
    have HR := Lib.hid (fun w => (show Calls Tryz.prog 139 #[boxV q.x0 q.y0 q.x1 q.y1] w (BPost w bb) from hbb ▸ hr w))
    clear hr hbb hB
    rcases hq with h | h | h
    all_goals
      cases bb
      all_goals
        go_enter Tryz.func109, Tryz.ntmps109
        go_wp2_with fail
        refine (HR.out _).mono ?_
        rintro e w1 ⟨rfl, h1⟩
        have hb1 := hb.out.below h1 hb.out.lt
        have hW1 := Lib.hid (hW.out.trans (h1.mono (by simp)))
        have c6 := hb1.is 6 rfl
        have c7 := hb1.is 7 rfl
        have c10 := hb1.is 10 rfl
        have c11 := hb1.is 11 rfl
        have c22 := hb1.is 22 rfl
        clear hb1 h1
        go_wp2_with fail
      all_goals
        go_ret
        refine ⟨?_, hW1.out⟩
        rw [HX.out]
        simp [*] <;> omega
  · have h5 : ¬ q.op = 5 := fun e => hq (.inl e)
    have h13 : ¬ q.op = 13 := fun e => hq (.inr (.inl e))
    have h15 : ¬ q.op = 15 := fun e => hq (.inr (.inr e))
    have hB := boxedB_not h5 h13 h15
    have HX := Lib.hid (show rangeB q = (boxedB q && (decide (q.role ≤ 7) && (decide (q.tier ≤ 7) && (decide (q.label ≤ 7) && (decide (q.rights ≤ 31) && decide (q.zoom ≤ 16)))))) from rfl)
    rw [hB] at HX
    clear hB hq
    go_enter Tryz.func109, Tryz.ntmps109
    go_wp2_with fail
    all_goals
      go_ret
      refine ⟨?_, hW.out⟩
      rw [HX.out]
      simp [*] <;> omega
end Go.Proofs.YtldjgpnbkbmgoaaGreatDoor
