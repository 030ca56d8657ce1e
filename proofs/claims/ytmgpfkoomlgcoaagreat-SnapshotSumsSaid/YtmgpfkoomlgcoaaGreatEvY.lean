/-
  The evaluator's word for a whole call: what comes back, and that nothing of old has turned.
-/
import Derived.Test.YtmgpfkoomlgcoaaGreatEvX
import Derived.Below
namespace Go.Proofs.YtmgpfkoomlgcoaaGreat.Ev
open Go.RowKit (Below)

/-- What a call hands back, if it is a value without addresses. -/
def evFlatO (E : Env) (ov : Ov) (d f : Nat) (args : List AV) : Option Value :=
  match evCall E ov d f args σe with
  | some (v, _) => v.flat
  | none => none
def evFlat (E : Env) (d f : Nat) (args : List AV) : Option Value := evFlatO E noOv d f args

theorem evFlatO_ok {P : Program} {E : Env} (hE : EnvOk P E) {ov : Ov} (hov : OvOk P ov) {d f : Nat} {args : List AV} {v : Value} (h : evFlatO E ov d f args = some v) {xs : Array Value} (hx : Concs emp args xs.toList) (w : World) :
    Calls P f xs w (fun e w' => e = .returned v ∧ Below w.heap.size w w') := by
  unfold evFlatO at h
  split at h
  · rename_i u σ' hc
    exact (evCall_ok hE hov d f args σe u σ' hc (frz w emp) emp w xs (rel_start w) hx).2 _ fun γ' x w' hxv hR _ => ⟨by rw [flat_conc u v x h hxv], below_of hR.frame⟩
  · cases h

theorem evFlat_ok {P : Program} {E : Env} (hE : EnvOk P E) {d f : Nat} {args : List AV} {v : Value} (h : evFlat E d f args = some v) {xs : Array Value} (hx : Concs emp args xs.toList) (w : World) :
    Calls P f xs w (fun e w' => e = .returned v ∧ Below w.heap.size w w') := evFlatO_ok hE (noOv_ok P) h hx w

/-- Arguments without addresses. -/
theorem evLits_ok {P : Program} {E : Env} (hE : EnvOk P E) {d f : Nat} {xs : List Value} {v : Value} (h : evFlat E d f (xs.map .lit) = some v) (w : World) :
    Calls P f xs.toArray w (fun e w' => e = .returned v ∧ Below w.heap.size w w') :=
  evFlat_ok hE h (concs_lits emp xs) w

/-- The same table, with functions that are run alone. -/
def Env.only (E : Env) (l : List Nat) : Env := { E with lone := memN l }
theorem only_ok {P : Program} {E : Env} (hE : EnvOk P E) (l : List Nat) : EnvOk P (E.only l) :=
  ⟨hE.info, hE.und, hE.fn, hE.wide, hE.guard, hE.eq, hE.key⟩

end Go.Proofs.YtmgpfkoomlgcoaaGreat.Ev
