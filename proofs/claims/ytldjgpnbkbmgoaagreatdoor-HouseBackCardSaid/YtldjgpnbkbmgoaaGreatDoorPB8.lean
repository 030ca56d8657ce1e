/-
  What items may be: the reference's May. Conditions: as each states.
-/
import Derived.Test.YtldjgpnbkbmgoaaGreatDoorPB2
import Derived.Test.YtldjgpnbkbmgoaaGreatDoorPB3
import Derived.Test.YtldjgpnbkbmgoaaGreatDoorPB7
import Derived.Deep.DeepCutAuto
set_option linter.unusedSimpArgs false
set_option linter.unusedVariables false
set_option maxRecDepth 100000
set_option maxHeartbeats 8000000
namespace Go.Proofs.YtldjgpnbkbmgoaaGreatDoor
open Go.RowKit Go.Lib
attribute [local go_sem ↓] load_req stop_req
end Go.Proofs.YtldjgpnbkbmgoaaGreatDoor

