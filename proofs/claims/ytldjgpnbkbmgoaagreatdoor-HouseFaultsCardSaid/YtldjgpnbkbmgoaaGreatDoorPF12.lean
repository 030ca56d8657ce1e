/-
  The reference's line is the program's. No program here. Conditions: none. The reference's line of a request. Conditions: as each states. The reference's texts: small, Hex, an item's Line, a job's Text; its Wrong and Right. Conditions: as each states. What may be has numbers of the machine's kind. No program here. Conditions: none.
-/
import Derived.Test.YtldjgpnbkbmgoaaGreatDoorPF4
import Derived.Test.YtldjgpnbkbmgoaaGreatDoorPF2
import Derived.Test.YtldjgpnbkbmgoaaGreatDoorLine
import Derived.Test.YtldjgpnbkbmgoaaGreatDoorPF1
import Derived.Test.YtldjgpnbkbmgoaaGreatDoorPF6
import Derived.Test.YtldjgpnbkbmgoaaGreatDoorPF8
import Derived.Deep.RegionHeld3
import Derived.Deep.DeepCutAuto
set_option linter.unusedSimpArgs false
set_option linter.unusedVariables false
set_option maxRecDepth 100000
set_option maxHeartbeats 8000000
namespace Go.Proofs.YtldjgpnbkbmgoaaGreatDoor
open Go.RowKit
end Go.Proofs.YtldjgpnbkbmgoaaGreatDoor
namespace Go.Proofs.YtldjgpnbkbmgoaaGreatDoor
open Go.RowKit
attribute [local go_sem ↓] load_req stop_req
theorem RQ.to {w wx wy : World} {q : Req} (h : RQ w wx q) (e : wy = wx) : RQ w wy q := by rw [e]; exact h
end Go.Proofs.YtldjgpnbkbmgoaaGreatDoor

namespace Go.Proofs.YtldjgpnbkbmgoaaGreatDoor
open Go.RowKit Go.Lib
attribute [local go_sem ↓] load_req stop_req
abbrev RLB (w wx : World) (r : HRw) : Prop := HBx 75 w wx w.heap.size r
theorem RLB.sl {w wx : World} {r : HRw} (h : RLB w wx r) (hs : Sl byC w w.heap.size (.slice r.A r.x.bs.length r.cap) r.x.bs) : Sl byC wx wx.heap.size (.slice r.A r.x.bs.length r.cap) r.x.bs := (hs.below h.bel).more h.bel.size
theorem RLB.to {w wx wy : World} {r : HRw} (h : RLB w wx r) (hb : Below wx.heap.size wx wy) : RLB w wy r := HBx.below h hb
end Go.Proofs.YtldjgpnbkbmgoaaGreatDoor

namespace Go.Proofs.YtldjgpnbkbmgoaaGreatDoor
open Go.RowKit
end Go.Proofs.YtldjgpnbkbmgoaaGreatDoor

