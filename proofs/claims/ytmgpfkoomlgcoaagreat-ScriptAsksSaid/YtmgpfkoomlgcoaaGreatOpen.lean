/-
  Arguments opened: bytes. Conditions: none.
-/
import Derived.Test.YtmgpfkoomlgcoaaGreatPlain
import Derived.Test.YtmgpfkoomlgcoaaGreatArgs
namespace Go.Proofs.YtmgpfkoomlgcoaaGreat
open Go.RowKit Go.ChangeShapes Go.WideShapes

theorem knob_none : ownKnob Tryz.prog.godebug = none := by kernel_rfl
theorem laid_out : laidOutB Tryz.prog = true := by kernel_rfl

section
variable {H : Type} {enc : TypeId × Value → H} {w : World} {base : Nat} {spare : Nat → Bool} {held : Bool}
theorem u8_of {n : Int} (h : (Lit.int .u8 n).wf = true) : ∃ b : UInt8, n = (b.toNat : Int) := by
  have h2 : (0 : Int) ≤ n ∧ n < 256 := by
    simp only [Lit.wf, Bool.and_eq_true, decide_eq_true_eq] at h
    have e1 : IntKind.u8.min = 0 := rfl
    have e2 : IntKind.u8.max = 255 := rfl
    omega
  refine ⟨UInt8.ofNat n.toNat, ?_⟩
  simp
  omega
set_option maxRecDepth 100000 in
theorem trod_by (n : Nat) (cs : List Value) (x : DataW H × List MemPlace) (h : DataW.trod enc Tryz.prog w base spare held n 5 cs = some x) (_hl : cs.length = 1) : ∃ a : UInt8, cs = byC a ∧ True := by
  obtain ⟨a0, rfl, -, hw⟩ := DataW.trod_int Tryz.underlying5 h
  obtain ⟨b, rfl⟩ := u8_of hw
  exact ⟨b, rfl, trivial⟩
set_option maxRecDepth 100000 in
theorem open_bytes {r : Reach} {b0 : Nat} {v : Value} {d : DataW H} {ps : List MemPlace} (hv : Value.okWide Tryz.prog w r b0 22 v) (h : DataW.Trod enc Tryz.prog w base spare held 22 v d ps) : ∃ l : List UInt8, Sl byC w w.heap.size v l := by
  obtain ⟨l, hl, _⟩ := open_sl (enc' := byC) (by omega) byC_len (fun _ => True) Tryz.underlying22 (by kernel_rfl) trod_by hv h
  exact ⟨l, hl⟩
end
end Go.Proofs.YtmgpfkoomlgcoaaGreat
