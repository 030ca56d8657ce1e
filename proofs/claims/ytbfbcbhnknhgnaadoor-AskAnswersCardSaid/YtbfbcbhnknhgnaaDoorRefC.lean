/-
  The reference's rect and point, and With. Conditions: as each states.
-/
import Derived.Test.YtbfbcbhnknhgnaaDoorRefB
import Derived.StillTailTactics
namespace Go.Proofs.YtbfbcbhnknhgnaaDoor
open Go.RowKit Go.Lib

theorem wrap_small {z : Nat} (hz : z < 4294967296) : IntKind.i64.wrap (z : Int) = (z : Int) := by rw [IntKind.wrap_i64]; omega

/-- A region that draws and reads ahead of one store. -/
theorem drew_is {w w2 : World} (h : w.drew = w2) : (∀ a, w2.cell? a = w.cell? a) ∧ (∀ a, w2.frozen? a = w.frozen? a) ∧ w2.heap = w.heap := by
  subst h
  exact ⟨fun _ => rfl, fun _ => rfl, rfl⟩

theorem below_drew {B : Nat} {a w : World} (h : Below B a w) : Below B a w.drew := ⟨h.os, h.tape, h.output, h.size, h.block⟩

/-- One result: a struct in memory. -/
theorem results_cell {P : Program} {fn : Func} {p : Tmp} {ty : TypeId} (h : fn.results = #[.cell p ty]) (tmps : Array Value) (w : World) (g : Nat) (t : TypeId) (cs : Array Value) (fr : Nat × Nat) (d : TypeDesc)
    (hp : tmps.getD p undef = .pointer (some ⟨g, 0, none⟩)) (hg : w.heap[g]? = some (.cells cs t fr))
    (hu : P.underlying ty = some d) (hd : (match d with | .struct _ | .array _ _ => true | _ => false) = true) (hi : (P.info? ty).map (·.size) = some cs.size) :
    (results fn tmps).run P w = .ok (.agg cs) w := by
  have hp' : tmps[p]?.getD undef = .pointer (some ⟨g, 0, none⟩) := by simpa using hp
  simp [results, h, hp', asAddr, run_loadVar_row w g t ty cs fr d hg hu hd hi]

theorem still_tail {P : Program} {id : Nat} {Q : Exit → Act → World → Prop} {a : Act} {w : World} {l : List Oper} (n : Nat) (hm : P.follows .mixedOrders = true) (hB : Region.lexTailB .any l.toArray n = true)
    (h : wpStill P l.toArray w.drew (fun a' => wpList P l.toArray Q (l.drop n) a' w.drew) (l.take n) a) : (Code.region id l.toArray true).wp P Q a w := wp_region_still_tail n hm hB h
end Go.Proofs.YtbfbcbhnknhgnaaDoor
