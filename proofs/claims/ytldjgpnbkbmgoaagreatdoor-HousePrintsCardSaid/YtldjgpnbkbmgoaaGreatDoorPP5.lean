/-
  house.item: the item of a line. Conditions: a line of at most 1,000,000 bytes.
-/
import Derived.Test.YtldjgpnbkbmgoaaGreatDoorPP4
import Derived.Deep.CutBlock
set_option linter.unusedSimpArgs false
set_option linter.unusedVariables false
set_option maxRecDepth 100000
set_option maxHeartbeats 8000000
namespace Go.Proofs.YtldjgpnbkbmgoaaGreatDoor
open Go.RowKit Go.Lib
attribute [local go_sem ↓] load_req stop_req
theorem Own.below {α : Type} {enc : α → List Value} {k base : Nat} {e : TypeId} {w w' : World} {v : Value} {l : List α} (h : Own enc k e w base v l) (hb : Below w.heap.size w w') : Own enc k e w' base v l := h.keep fun b hv => hb.block b (h.lt b hv).2
abbrev z0 : HRw := ⟨zeroIt, none, 0⟩
theorem hiA_bs (k c n : Int) (A : Option Addr) (cap : Nat) (l : List UInt8) : (hiA ⟨{ zeroIt with kind := k, conn := c, n := n }, none, 0⟩).setIfInBounds 2 (.slice A l.length cap) = hiA ⟨{ zeroIt with kind := k, conn := c, n := n, bs := l }, A, cap⟩ := by kernel_rfl
theorem hiA_dr (k c n : Int) (d : Nat) : (hiA ⟨{ zeroIt with kind := k, conn := c, n := n }, none, 0⟩).setIfInBounds 3 (.int .u64 (d : Nat)) = hiA ⟨{ zeroIt with kind := k, conn := c, n := n, draw := d }, none, 0⟩ := by kernel_rfl
structure IS (w wx : World) (g t : Nat) (rd : HRd) (r : HRw) : Prop where
  res : Blk wx w.heap.size 62 (hiA z0)
  rd : RdB wx g rd
  x : Blk wx t 62 (hiA r)
  own : Own byC 1 5 wx w.heap.size (.slice r.A r.x.bs.length r.cap) r.x.bs
  bel : Below w.heap.size w wx
  rg : w.heap.size < g
  gt : g < t
theorem IS.call {w wx wy : World} {g t : Nat} {rd rd' : HRd} {r : HRw} (h : IS w wx g t rd r) (hr : RdB wy g rd') (hg : wx.grownBy wy (some g)) : IS w wy g t rd' r :=
  ⟨h.res.grown hg (fun e => by have := Option.some.inj e; have := h.rg; omega), hr, h.x.grown hg (fun e => by have := Option.some.inj e; have := h.gt; omega),
    h.own.grown hg (.inr (h.own.ne_blk h.rd (by decide))), h.bel.trans (below_of_grown hg h.bel.size (fun k hk => by have := Option.some.inj hk; have := h.rg; omega)), h.rg, h.gt⟩
theorem IS.keep {w wx wy : World} {g t : Nat} {rd : HRd} {r : HRw} (h : IS w wx g t rd r) (hb : Below wx.heap.size wx wy) : IS w wy g t rd r :=
  ⟨h.res.below hb h.res.lt, h.rd.below hb, h.x.below hb h.x.lt, h.own.below hb, h.bel.trans (hb.mono h.bel.size), h.rg, h.gt⟩
theorem IS.row {w wx : World} {g t : Nat} {rd : HRd} {r : HRw} (h : IS w wx g t rd r) (k c n : Int) : IS w (wx.setRow t (hiA ⟨{ zeroIt with kind := k, conn := c, n := n }, none, 0⟩)) g t rd ⟨{ zeroIt with kind := k, conn := c, n := n }, none, 0⟩ := by
  have h1 := h.rg
  have h2 := h.gt
  exact ⟨h.res.farRow (show w.heap.size ≠ t by omega) _, Blk.farRow h.rd (show g ≠ t by omega) _, h.x.row _, Own.nil, below_setRow h.bel (by omega) _, h.rg, h.gt⟩
theorem IS.bytes {w wx : World} {g t : Nat} {rd : HRd} {k c n : Int} (h : IS w wx g t rd ⟨{ zeroIt with kind := k, conn := c, n := n }, none, 0⟩) {A : Option Addr} {cap : Nat} {l : List UInt8} (ho : Own byC 1 5 wx w.heap.size (.slice A l.length cap) l) :
    IS w (wx.setCell ⟨t, 2, none⟩ (.slice A l.length cap)) g t rd ⟨{ zeroIt with kind := k, conn := c, n := n, bs := l }, A, cap⟩ := by
  have h1 := h.rg
  have h2 := h.gt
  exact ⟨h.res.far (p := ⟨t, 2, none⟩) (show w.heap.size ≠ t by omega) _, Blk.far h.rd (p := ⟨t, 2, none⟩) (show g ≠ t by omega) _, by rw [← hiA_bs]; exact h.x.put 2 _, ho.set _ (ho.ne_blk h.x (by decide)), h.bel.setCell (p := ⟨t, 2, none⟩) (show w.heap.size ≤ t by omega) _, h.rg, h.gt⟩
theorem IS.draw {w wx : World} {g t : Nat} {rd : HRd} {k c n : Int} (h : IS w wx g t rd ⟨{ zeroIt with kind := k, conn := c, n := n }, none, 0⟩) (d : Nat) :
    IS w (wx.setCell ⟨t, 3, none⟩ (.int .u64 (d : Nat))) g t rd ⟨{ zeroIt with kind := k, conn := c, n := n, draw := d }, none, 0⟩ := by
  have h1 := h.rg
  have h2 := h.gt
  exact ⟨h.res.far (p := ⟨t, 3, none⟩) (show w.heap.size ≠ t by omega) _, Blk.far h.rd (p := ⟨t, 3, none⟩) (show g ≠ t by omega) _, by rw [← hiA_dr]; exact h.x.put 3 _, Own.nil, h.bel.setCell (p := ⟨t, 3, none⟩) (show w.heap.size ≤ t by omega) _, h.rg, h.gt⟩
end Go.Proofs.YtldjgpnbkbmgoaaGreatDoor

