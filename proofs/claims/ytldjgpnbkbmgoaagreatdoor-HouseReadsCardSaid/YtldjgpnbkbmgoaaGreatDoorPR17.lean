/-
  HouseBack: the law. Conditions: what 'known' gives is a premise here.
-/
import Derived.Test.YtldjgpnbkbmgoaaGreatDoorPR13
import Derived.Test.YtldjgpnbkbmgoaaGreatDoorPR16
set_option linter.unusedSimpArgs false
set_option linter.unusedVariables false
set_option maxRecDepth 100000
set_option maxHeartbeats 8000000
namespace Go.Proofs.YtldjgpnbkbmgoaaGreatDoor
open Go.RowKit Go.Lib
attribute [local go_sem ↓] load_req stop_req
theorem pa_jsl {w w' : World} {vs vi : Value} {ss : List Nat} {rs : List HRw} {xs : List HIt} (h1 : Own usC 1 49 w' w.heap.size vs ss) (h2 : Own hiC 29 62 w' w.heap.size vi rs) (hx : xsOf rs = xs) (hby : byOwn w w' rs)
    (hq : ∀ x ∈ xs, x.q.fits ∧ x.q.ib ∧ x.fits) (hs : ∀ s ∈ ss, s < 18446744073709551616) : JSl w' vs vi ss rs := by
  refine ⟨h1.sl, h2.sl, fun r hr => ?_, hs⟩
  obtain ⟨q1, q2, q3⟩ := hq r.x (by rw [← hx]; exact List.mem_map.2 ⟨r, hr, rfl⟩)
  exact ⟨(hby r hr).sl, q1, q2, q3⟩
end Go.Proofs.YtldjgpnbkbmgoaaGreatDoor

