/-
  WireDecodes holds: for any bytes: the law returns true, and its argument reads as it did. Conditions: none.
-/
import Derived.Test.YtmgpfkoomlgcoaaGreatOpen
namespace Go.Proofs.YtmgpfkoomlgcoaaGreat
open Go.RowKit Go.ChangeShapes Go.WideShapes Go.Lib
attribute [local go_sem ↓] load_req stop_req

theorem reqEq_self (q : Req) : reqEq q q = true := decide_eq_true rfl
end Go.Proofs.YtmgpfkoomlgcoaaGreat
