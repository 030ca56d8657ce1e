/-
  The reference's put. Conditions: as each states.
-/
import Derived.Test.YtbfbcbhnknhgnaaDoorBack
namespace Go.Proofs.YtbfbcbhnknhgnaaDoor
open Go.RowKit Go.Lib

/-- What put gives. -/
def putL (l : List UInt8) (n : Int) (k : Nat) : List UInt8 := if n < 0 then l else l ++ toBE k n.toNat
def putB (n : Int) (k : Nat) : Bool := decide (0 ≤ n) && decide (n.toNat < 256 ^ k)
/-- Where a slice that was appended to lies: where it lay, or in a block made since. -/
def Kin (w : World) (s v : Value) : Prop := v.ownBlock = s.ownBlock ∨ ∃ g, v.ownBlock = some g ∧ w.heap.size ≤ g
theorem Kin.refl (w : World) (s : Value) : Kin w s s := .inl rfl
theorem grown_then {a b c : World} {r r' : Option Nat} (h : a.grownBy b r) (k : b.grownBy c r') (hr : r' = r ∨ ∃ g, r' = some g ∧ a.heap.size ≤ g) : a.grownBy c r :=
  ⟨k.os.trans h.os, k.tape.trans h.tape, k.output.trans h.output, Nat.le_trans h.size k.size, fun i hi hne => by
    refine (k.block i (Nat.lt_of_lt_of_le hi h.size) ?_).trans (h.block i hi hne)
    rcases hr with rfl | ⟨g, rfl, hg⟩
    · exact hne
    · intro e
      injection e with e
      omega⟩
theorem grown_of_below {w w' : World} (h : Below w.heap.size w w') (r : Option Nat) : w.grownBy w' r := ⟨h.os, h.tape, h.output, h.size, fun k hk _ => h.block k hk⟩
theorem below_of_grown {B : Nat} {w w' : World} {r : Option Nat} (h : w.grownBy w' r) (hB : B ≤ w.heap.size) (hr : ∀ g, r = some g → B ≤ g) : Below B w w' :=
  ⟨h.os, h.tape, h.output, h.size, fun k hk => h.block k (by omega) fun e => by have := hr k e.symm; omega⟩
theorem grown_refl (w : World) (r : Option Nat) : w.grownBy w r := ⟨rfl, rfl, rfl, Nat.le_refl _, fun _ _ _ => rfl⟩
def PPost (w : World) (base : Nat) (s : Value) (l : List UInt8) (b : Bool) (e : Ending) (w' : World) : Prop := ∃ v, e = .returned (.tuple #[v, .bool b]) ∧ Own byC 1 5 w' base v l ∧ w.grownBy w' s.ownBlock ∧ Kin w s v

/-- A slice of the call's own that is not empty lies in a block of its own. -/
theorem Own.block_of {α : Type} {enc : α → List Value} {k base : Nat} {e : TypeId} {w : World} {v : Value} {l : List α} (h : Own enc k e w base v l) (h0 : 0 < l.length) :
    ∃ g cap, v = .slice (some ⟨g, 0, none⟩) l.length cap ∧ base ≤ g ∧ g < w.heap.size ∧ l.length ≤ cap ∧ cap ≤ maxLen ∧ Lay w g 0 (l.flatMap enc) := by
  rcases h.2 with ⟨rfl, hz⟩ | ⟨g, cap, cur, rfl, hb, hg, h1, h2, _⟩
  · omega
  · refine ⟨g, cap, rfl, hb, (Array.getElem?_eq_some_iff.1 hg).1, h1, h2, fun j u hu => ?_⟩
    have := h.cells (g := g) rfl j u hu
    have hadd : (⟨g, 0, none⟩ : Addr).add j = ⟨g, 0 + j, none⟩ := by unfold Addr.add; split <;> simp_all
    rwa [hadd] at this
end Go.Proofs.YtbfbcbhnknhgnaaDoor
