/-
  WireEncodes holds: for any request: the law returns true, and its argument reads as it did. Conditions: none.
-/
import Derived.Test.YtbfbcbhnknhgnaaGreatDoorLawBack
import Derived.Test.YtbfbcbhnknhgnaaGreatDoorOpenIb
import Derived.Test.YtbfbcbhnknhgnaaGreatDoorBytes
namespace Go.Proofs.YtbfbcbhnknhgnaaGreatDoor
open Go.RowKit Go.ChangeShapes Go.WideShapes Go.Lib
attribute [local go_sem ↓] load_req stop_req
theorem rbytes_ok (q : Req) (w : World) (hq : q.fits) (hib : q.ib) : Calls Tryz.prog 6 #[.agg (rqC q)] w (YPost w (rbOk q) (rbL q)) := by
  by_cases hop : isOp q.op = true
  · by_cases hm : q.m ≤ 64
    · by_cases ht : q.txt.length ≤ 512
      · exact rbytes_go q w hq hib hop hm ht
      · have h : rbOk q = false := by unfold rbOk; simp [ht]
        rw [h]
        exact rbytes_no q w (.inr (.inr ⟨hop, hm, by omega⟩))
    · have h : rbOk q = false := by unfold rbOk; simp [hm]
      rw [h]
      exact rbytes_no q w (.inr (.inl ⟨hop, by omega⟩))
  · have hop' : isOp q.op = false := by simpa using hop
    have h : rbOk q = false := by unfold rbOk; simp [hop']
    rw [h]
    exact rbytes_no q w (.inl hop')
end Go.Proofs.YtbfbcbhnknhgnaaGreatDoor
