/-
  The fixed calls of layer 25 come out as they should. Conditions: none.
-/
import Derived.Test.YtmgpfkoomlgcoaaGreatEvT
namespace Go.Proofs.YtmgpfkoomlgcoaaGreat
open Ev Go.RowKit
theorem known25 : evFlat ev 60 33 [] = some (.bool true) := by kernel_rfl
theorem known25_ok (w : World) : Calls Tryz.prog 33 #[] w (fun e w' => e = .returned (.bool true) ∧ Below w.heap.size w w') :=
  evFlat_ok ev_ok known25 (concs_flat [] [] rfl) w
end Go.Proofs.YtmgpfkoomlgcoaaGreat
