/-
  A request opened, with the bounds of its numbers. Conditions: none. The reference's Bytes. Conditions: as each states. WireEncodes holds: for any request: the law returns true, and its argument reads as it did. Conditions: none.
-/
import Derived.Test.YtldjgpnbkbmgoaaGreatDoorPB1
import Derived.Test.YtldjgpnbkbmgoaaGreatDoorPB2
import Derived.Deep.DeepCutAuto
set_option linter.unusedSimpArgs false
set_option linter.unusedVariables false
set_option maxRecDepth 100000
set_option maxHeartbeats 8000000
namespace Go.Proofs.YtldjgpnbkbmgoaaGreatDoor
open Go.RowKit Go.ChangeShapes Go.WideShapes
section
variable {H : Type} {enc : TypeId × Value → H} {w : World} {base : Nat} {spare : Nat → Bool} {held : Bool}
theorem i64_of {n : Int} (h : (Lit.int .i64 n).wf = true) : n < 9223372036854775808 := by
  simp only [Lit.wf, Bool.and_eq_true, decide_eq_true_eq] at h
  have e2 : IntKind.i64.max = 9223372036854775807 := rfl
  omega
end
end Go.Proofs.YtldjgpnbkbmgoaaGreatDoor

namespace Go.Proofs.YtldjgpnbkbmgoaaGreatDoor
open Go.RowKit Go.Lib
attribute [local go_sem ↓] load_req stop_req
structure YS (w w3 wx : World) (q : Req) (v : Value) (l : List UInt8) : Prop where
  own : Own byC 1 5 wx w3.heap.size v l
  gr : w3.grownBy wx none
theorem YS.blk {w w3 wx : World} {q : Req} {v : Value} {l : List UInt8} (h : YS w w3 wx q v l) {g : Nat} {t : TypeId} {cs : Array Value} (hb : Blk w3 g t cs) : Blk wx g t cs := hb.grown h.gr (by simp)
theorem YS.put {w w3 wx wy : World} {q : Req} {v v2 : Value} {l l2 : List UInt8} (h : YS w w3 wx q v l) (hg : wx.grownBy wy v.ownBlock) (ho : Own byC 1 5 wy w3.heap.size v2 l2) : YS w w3 wy q v2 l2 :=
  ⟨ho, grown_then h.gr hg (by
    cases hb : v.ownBlock with
    | none => exact .inl rfl
    | some g => exact .inr ⟨g, rfl, (h.own.lt g hb).1⟩)⟩
theorem YS.drew {w w3 wx : World} {q : Req} {v : Value} {l : List UInt8} (h : YS w w3 wx q v l) : YS w w3 wx.drew q v l := ⟨h.own, ⟨h.gr.os, h.gr.tape, h.gr.output, h.gr.size, h.gr.block⟩⟩
theorem YS.below {w w3 wx wy : World} {q : Req} {v : Value} {l : List UInt8} (h : YS w w3 wx q v l) (hb : Below wx.heap.size wx wy) : YS w w3 wy q v l :=
  ⟨h.own.keep fun b hv => hb.block b (h.own.lt b hv).2, grown_then h.gr (grown_of_below hb none) (.inl rfl)⟩
structure YL (w w3 wx : World) (q : Req) (v : Value) (l : List UInt8) (gl : Nat) (L : List UInt8) : Prop where
  ys : YS w w3 wx q v l
  lay : Lay wx gl 0 (L.flatMap byC)
  lt : gl < wx.heap.size
  ne : v.ownBlock ≠ some gl
theorem YL.step {w w3 wr w6 : World} {q : Req} {v : Value} {cur l2 L : List UInt8} {gl g' n cap' : Nat} (o : Obj) (h : YL w w3 wr q v cur gl L) (hown : Own byC 1 5 w6 w3.heap.size (.slice (some ⟨g', 0, none⟩) n cap') l2) (hgrow : (wr.alloc o).grownBy w6 v.ownBlock)
    (hat : v.ownBlock = some g' ∨ g' = (wr.alloc o).heap.size) : YL w w3 w6 q (.slice (some ⟨g', 0, none⟩) n cap') l2 gl L := by
  have h1 : YS w w3 (wr.alloc o) q v cur := h.ys.below ((Below.refl wr.heap.size wr).alloc (Nat.le_refl _) o)
  have hz : (wr.alloc o).heap.size = wr.heap.size + 1 := by simp
  have hl := h.lt
  refine ⟨h1.put hgrow hown, (h.lay.of_heap (Below.heap_alloc wr o gl h.lt)).of_heap (hgrow.block gl (by omega) (fun e => h.ne e.symm)), Nat.lt_of_lt_of_le (by omega) hgrow.size, ?_⟩
  intro e
  simp only [Value.ownBlock, Option.some.injEq] at e
  rcases hat with h2 | h2
  · exact h.ne (h2.trans (by rw [e]))
  · omega
structure YV (w w3 wx : World) (q : Req) (v : Value) (l : List UInt8) (gv : Nat) (vs : List Int) (gf : Nat) (fs : List Nat) : Prop where
  ys : YS w w3 wx q v l
  layv : Lay wx gv 0 (vs.flatMap izC)
  ltv : gv < wx.heap.size
  nev : v.ownBlock ≠ some gv
  layf : Lay wx gf 0 (fs.flatMap inC)
  ltf : gf < wx.heap.size
  nef : v.ownBlock ≠ some gf
theorem kin_ne {wx : World} {v v2 : Value} {g : Nat} (h : Kin wx v v2) (hg : g < wx.heap.size) (hne : v.ownBlock ≠ some g) : v2.ownBlock ≠ some g := by
  rcases h with h | ⟨g2, h, h2⟩
  · rw [h]; exact hne
  · rw [h]
    intro e
    injection e with e
    omega
theorem YV.drew {w w3 wx : World} {q : Req} {v : Value} {l : List UInt8} {gv gf : Nat} {vs : List Int} {fs : List Nat} (h : YV w w3 wx q v l gv vs gf fs) : YV w w3 wx.drew q v l gv vs gf fs := ⟨h.ys.drew, h.layv, h.ltv, h.nev, h.layf, h.ltf, h.nef⟩
theorem YV.put {w w3 wx wy : World} {q : Req} {v v2 : Value} {l l2 : List UInt8} {gv gf : Nat} {vs : List Int} {fs : List Nat} (h : YV w w3 wx q v l gv vs gf fs) (hg : wx.grownBy wy v.ownBlock) (ho : Own byC 1 5 wy w3.heap.size v2 l2) (hk : Kin wx v v2) : YV w w3 wy q v2 l2 gv vs gf fs :=
  ⟨h.ys.put hg ho, h.layv.of_heap (hg.block gv h.ltv fun e => h.nev e.symm), Nat.lt_of_lt_of_le h.ltv hg.size, kin_ne hk h.ltv h.nev, h.layf.of_heap (hg.block gf h.ltf fun e => h.nef e.symm), Nat.lt_of_lt_of_le h.ltf hg.size, kin_ne hk h.ltf h.nef⟩
end Go.Proofs.YtldjgpnbkbmgoaaGreatDoor

namespace Go.Proofs.YtldjgpnbkbmgoaaGreatDoor
open Go.RowKit Go.ChangeShapes Go.WideShapes Go.Lib
attribute [local go_sem ↓] load_req stop_req
end Go.Proofs.YtldjgpnbkbmgoaaGreatDoor

