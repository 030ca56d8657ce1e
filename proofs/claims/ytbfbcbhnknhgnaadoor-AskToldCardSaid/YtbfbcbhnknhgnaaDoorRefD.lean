/-
  The reference's Range and Decode. Conditions: as each states.
-/
import Derived.Test.YtbfbcbhnknhgnaaDoorWith
import Derived.Deep.DeepCutAuto
namespace Go.Proofs.YtbfbcbhnknhgnaaDoor
open Go.RowKit Go.Lib

def rangeB (q : Req) : Bool := boxedB q && (decide (q.role ≤ 7) && (decide (q.tier ≤ 7) && (decide (q.label ≤ 7) && (decide (q.rights ≤ 31) && decide (q.zoom ≤ 16)))))
theorem boxedB_not {q : Req} (h5 : q.op ≠ 5) (h13 : q.op ≠ 13) (h15 : q.op ≠ 15) : boxedB q = true := by
  unfold boxedB
  rw [if_neg (by simp [h5, h13, h15])]
theorem boxedB_is {q : Req} (h : q.op = 5 ∨ q.op = 13 ∨ q.op = 15) : boxedB q = boxB q.x0 q.y0 q.x1 q.y1 := by
  unfold boxedB
  rw [if_pos h]
end Go.Proofs.YtbfbcbhnknhgnaaDoor
