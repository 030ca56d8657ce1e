/-
  WireNeeds holds: for any request: the law returns true, and its argument reads as it did. Conditions: none.
-/
import Derived.Test.YtmgpfkoomlgcoaaGreatSized
import Derived.Test.YtmgpfkoomlgcoaaGreatBack
import Derived.Deep.DeepCutAuto
namespace Go.Proofs.YtmgpfkoomlgcoaaGreat
open Go.RowKit Go.ChangeShapes Go.WideShapes Go.Lib
attribute [local go_sem ↓] load_req stop_req

/-- A request lies in the first block that was made. -/
structure RQ (w wx : World) (q : Req) : Prop where
  b0 : Blk wx w.heap.size 49 (rqC q)
  bel : Below w.heap.size w wx
set_option maxRecDepth 100000 in
theorem RQ.below {w wx wy : World} {q : Req} (h : RQ w wx q) (hb : Below wx.heap.size wx wy) : RQ w wy q := ⟨h.b0.below hb h.b0.lt, h.bel.trans (hb.mono h.bel.size)⟩
set_option maxRecDepth 100000 in
theorem RQ.new (w : World) (q : Req) : RQ w (w.alloc (.cells (rqC q) 49)) q := ⟨Blk.new w _ _, (Below.refl _ _).alloc (Nat.le_refl _) _⟩
set_option maxRecDepth 100000 in
theorem RQ.drew {w wx : World} {q : Req} (h : RQ w wx q) : RQ w wx.drew q := ⟨h.b0, below_drew h.bel⟩
end Go.Proofs.YtmgpfkoomlgcoaaGreat
