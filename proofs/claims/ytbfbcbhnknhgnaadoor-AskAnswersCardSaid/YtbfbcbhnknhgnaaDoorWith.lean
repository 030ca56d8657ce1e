/-
  The reference's With, an operation each. Conditions: as each states.
  PRINTED BY genwith.py.
-/
import Derived.Test.YtbfbcbhnknhgnaaDoorRefC
namespace Go.Proofs.YtbfbcbhnknhgnaaDoor
open Go.RowKit Go.Lib

/-- A request with an operation's fields. -/
def withR (q : Req) (l : List Nat) (t : List UInt8) : Req :=
  if q.op = 1 then { q with whom := l.getD 0 0, role := l.getD 1 0, tier := l.getD 2 0, quota := l.getD 3 0 } else
  if q.op = 2 then { q with whom := l.getD 0 0 } else
  if q.op = 3 then { q with txt := t } else
  if q.op = 4 then { q with whom := l.getD 0 0, rights := l.getD 1 0, til := l.getD 2 0 } else
  if q.op = 5 then { q with rights := l.getD 0 0, zoom := l.getD 1 0, x0 := l.getD 2 0, y0 := l.getD 3 0, x1 := l.getD 4 0, y1 := l.getD 5 0, til := l.getD 6 0 } else
  if q.op = 6 then { q with other := l.getD 0 0 } else
  if q.op = 7 then { q with pk := l.getD 0 0, area := l.getD 1 0 } else
  if q.op = 8 then { q with ax := l.getD 0 0, ay := l.getD 1 0, label := l.getD 2 0 } else
  if q.op = 13 then { q with x0 := l.getD 0 0, y0 := l.getD 1 0, x1 := l.getD 2 0, y1 := l.getD 3 0 } else
  if q.op = 14 then { q with ax := l.getD 0 0, ay := l.getD 1 0 } else
  if q.op = 15 then { q with x0 := l.getD 0 0, y0 := l.getD 1 0, x1 := l.getD 2 0, y1 := l.getD 3 0 } else
  if q.op = 16 then { q with ax := l.getD 0 0, ay := l.getD 1 0 } else
  if q.op = 17 then { q with frm := l.getD 0 0 } else
  if q.op = 19 then { q with whom := l.getD 0 0, quota := l.getD 1 0 } else q
end Go.Proofs.YtbfbcbhnknhgnaaDoor
