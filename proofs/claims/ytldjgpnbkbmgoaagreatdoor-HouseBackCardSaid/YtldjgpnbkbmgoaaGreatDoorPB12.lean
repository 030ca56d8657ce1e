/-
  The reference's line is the program's. No program here. Conditions: none. The reference's line of a request. Conditions: as each states. The reference's texts: small, Hex, an item's Line, a job's Text; its Wrong and Right. Conditions: as each states. What may be has numbers of the machine's kind. No program here. Conditions: none.
-/
import Derived.Test.YtldjgpnbkbmgoaaGreatDoorPB4
import Derived.Test.YtldjgpnbkbmgoaaGreatDoorPB2
import Derived.Test.YtldjgpnbkbmgoaaGreatDoorLine
import Derived.Test.YtldjgpnbkbmgoaaGreatDoorPB1
import Derived.Test.YtldjgpnbkbmgoaaGreatDoorPB6
import Derived.Test.YtldjgpnbkbmgoaaGreatDoorPB8
import Derived.Deep.RegionHeld3
import Derived.Deep.DeepCutAuto
set_option linter.unusedSimpArgs false
set_option linter.unusedVariables false
set_option maxRecDepth 100000
set_option maxHeartbeats 8000000
namespace Go.Proofs.YtldjgpnbkbmgoaaGreatDoor
open Go.RowKit
end Go.Proofs.YtldjgpnbkbmgoaaGreatDoor
namespace Go.Proofs.YtldjgpnbkbmgoaaGreatDoor
open Go.RowKit
attribute [local go_sem ↓] load_req stop_req
theorem RQ.to {w wx wy : World} {q : Req} (h : RQ w wx q) (e : wy = wx) : RQ w wy q := by rw [e]; exact h
end Go.Proofs.YtldjgpnbkbmgoaaGreatDoor

namespace Go.Proofs.YtldjgpnbkbmgoaaGreatDoor
open Go.RowKit Go.Lib
attribute [local go_sem ↓] load_req stop_req
theorem loadReq_at {w : World} {g o : Nat} {q : Req} (h : Lay w g o (rqC q).toList) : loadReq (.pointer (some ⟨g, o, none⟩)) w = .ok (.value (.agg (rqC q))) w := by
  unfold loadReq execOp
  simp only [Instr.loadAt, Instr.sureAddr, Sem.run_bind, Sem.run_pure, Result.andThen_ok, run_loadVar_mid w g o _ (rqC q).toList _ h Tryz.underlying60 rfl (by simpa using rq_size q), Array.toArray_toList]
abbrev RLB (w wx : World) (r : HRw) : Prop := HBx 75 w wx w.heap.size r
theorem RLB.sl {w wx : World} {r : HRw} (h : RLB w wx r) (hs : Sl byC w w.heap.size (.slice r.A r.x.bs.length r.cap) r.x.bs) : Sl byC wx wx.heap.size (.slice r.A r.x.bs.length r.cap) r.x.bs := (hs.below h.bel).more h.bel.size
theorem RLB.to {w wx wy : World} {r : HRw} (h : RLB w wx r) (hb : Below wx.heap.size wx wy) : RLB w wy r := HBx.below h hb
end Go.Proofs.YtldjgpnbkbmgoaaGreatDoor

namespace Go.Proofs.YtldjgpnbkbmgoaaGreatDoor
open Go.RowKit
end Go.Proofs.YtldjgpnbkbmgoaaGreatDoor

