/-
  WireEncodes holds: for any request: the law returns true, and its argument reads as it did. Conditions: none.
-/
import Derived.Test.YtmgpfkoomlgcoaaGreatLawBack
import Derived.Test.YtmgpfkoomlgcoaaGreatOpenIb
import Derived.Test.YtmgpfkoomlgcoaaGreatBytes
namespace Go.Proofs.YtmgpfkoomlgcoaaGreat
open Go.RowKit Go.ChangeShapes Go.WideShapes Go.Lib
attribute [local go_sem ↓] load_req stop_req
theorem rbytes_ok2 (q : Req) (w : World) (hq : q.fits) (hib : q.ib) : Calls Tryz.prog 101 #[.agg (rqC q)] w (YPost2 w (rbOk q) (rbL q)) := by
  by_cases hop : isOp q.op = true
  · by_cases hm : q.m ≤ 64
    · by_cases ht : q.txt.length ≤ 512
      · exact rbytes_go2 q w hq hib hop hm ht
      · have h : rbOk q = false := by unfold rbOk; simp [ht]
        rw [h]
        exact rbytes_no2 q w (.inr (.inr ⟨hop, hm, by omega⟩))
    · have h : rbOk q = false := by unfold rbOk; simp [hm]
      rw [h]
      exact rbytes_no2 q w (.inr (.inl ⟨hop, by omega⟩))
  · have hop' : isOp q.op = false := by simpa using hop
    have h : rbOk q = false := by unfold rbOk; simp [hop']
    rw [h]
    exact rbytes_no2 q w (.inl hop')
theorem rbytes_ok (q : Req) (w : World) (hq : q.fits) (hib : q.ib) : Calls Tryz.prog 101 #[.agg (rqC q)] w (YPost w (rbOk q) (rbL q)) :=
  (rbytes_ok2 q w hq hib).mono fun _ _ h => h.weak
end Go.Proofs.YtmgpfkoomlgcoaaGreat
