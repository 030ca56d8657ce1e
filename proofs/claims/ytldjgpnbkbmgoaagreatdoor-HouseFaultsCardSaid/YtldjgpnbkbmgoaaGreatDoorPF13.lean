/-
  Faults held against each other; two jobs that are the same. Conditions: as each states.
-/
import Derived.Test.YtldjgpnbkbmgoaaGreatDoorPF6
import Derived.Test.YtldjgpnbkbmgoaaGreatDoorPF12
set_option linter.unusedSimpArgs false
set_option linter.unusedVariables false
set_option maxRecDepth 100000
set_option maxHeartbeats 8000000
namespace Go.Proofs.YtldjgpnbkbmgoaaGreatDoor
open Go.RowKit Go.Lib
attribute [local go_sem ↓] load_req stop_req
def eq3 (a b c a' b' c' : Int) : Bool := decide (a = a' ∧ b = b' ∧ c = c')
@[go_sem high] theorem eqFlt (a b c a' b' c' : Int) (w : World) : (Op.equalIn 10000 31 (.agg #[.int .i64 a, .int .i64 b, .int .i64 c]) (.agg #[.int .i64 a', .int .i64 b', .int .i64 c'])).run Tryz.prog w = .ok (eq3 a b c a' b' c') w := by
  have hS : Tryz.prog.underlying 31 = some (.struct (Tryz.prog.fieldsOf 31)) := by kernel_rfl
  have hp : Tryz.prog.stoodInHeld 31 = false := by kernel_rfl
  rw [show (10000 : Nat) = 9999 + 1 from rfl, run_equalIn_agg w 9999 31 _ _ hS hp]
  simp only [Program.fieldsOf, Tryz.underlying31]
  go_simp
  unfold eq3
  by_cases h0 : a = a' <;> by_cases h1 : b = b' <;> by_cases h2 : c = c' <;> simp [h0, h1, h2]
@[go_sem] theorem gdFlt : Tryz.prog.eqGuardType Tryz.prog.depth 31 = false := by kernel_rfl
theorem run_strhead (l : List UInt8) (j : Nat) (hj : j ≤ l.length) (w : World) : (Instr.slice 9 (strV l) none (some (.int .i64 (j : Int))) none).run Tryz.prog w = .ok (strV (l.take j)) w := by
  have hz := str_size l
  simp [Instr.slice, run_underlying Tryz.underlying9, Instr.sliceBounds, Instr.sliceBound, asIntOf, go_sem, hz, hj]
  simpa using Value.string.inj (str_cut l 0 j)
abbrev lay0 (wx : World) : World := (wx.alloc (.cells (jC nilV nilV) 26)).alloc (.cells (fC 0 0) 31)
abbrev lay2 (wx : World) (vs vi : Value) (e : Int) (line : Nat) : World := ((lay0 wx).setRow wx.heap.size (jC vs vi)).setRow (wx.heap.size + 1) (fC e line)
theorem lay0_j (wx : World) : Blk (lay0 wx) wx.heap.size 26 (jC nilV nilV) := (Blk.new wx _ _).alloc _
theorem lay0_f (wx : World) : Blk (lay0 wx) (wx.heap.size + 1) 31 (fC 0 0) := by
  have h := Blk.new (wx.alloc (.cells (jC nilV nilV) 26)) 31 (fC 0 0)
  have hz : (wx.alloc (.cells (jC nilV nilV) 26)).heap.size = wx.heap.size + 1 := by simp
  rwa [hz] at h
theorem lay0_below (wx : World) : Below wx.heap.size wx (lay0 wx) := by
  have h1 := (Below.refl wx.heap.size wx).alloc (Nat.le_refl _) (.cells (jC nilV nilV) 26)
  exact h1.alloc h1.size _
theorem lay2_below (wx : World) (vs vi : Value) (e : Int) (line : Nat) : Below wx.heap.size wx (lay2 wx vs vi e line) := below_setRow (below_setRow (lay0_below wx) (Nat.le_refl _) _) (by omega) _
structure FB (w wx : World) (g : Nat) (e : Int) (line : Nat) : Prop where
  b : Blk wx g 31 (fC e line)
  bel : Below w.heap.size w wx
theorem FB.keep {w wx wy : World} {g : Nat} {e : Int} {line : Nat} (h : FB w wx g e line) (hb : Below wx.heap.size wx wy) : FB w wy g e line := ⟨h.b.below hb h.b.lt, h.bel.trans (hb.mono h.bel.size)⟩
theorem FB.laid {w wx : World} (hb : Below w.heap.size w wx) (vs vi : Value) (e : Int) (line : Nat) : FB w (lay2 wx vs vi e line) (wx.heap.size + 1) e line :=
  ⟨((lay0_f wx).farRow (by omega) _).row _, hb.trans ((lay2_below wx vs vi e line).mono hb.size)⟩
theorem FB.err {w wx : World} {g : Nat} {e : Int} {line : Nat} (h : FB w wx g e line) : wx.cell? ⟨g, 0, none⟩ = some (.int .i64 e) := h.b.is 0 rfl
theorem FB.line {w wx : World} {g : Nat} {e : Int} {line : Nat} (h : FB w wx g e line) : wx.cell? ⟨g, 1, none⟩ = some (.int .i64 (line : Nat)) := h.b.is 1 rfl
theorem lay2_j (wx : World) (vs vi : Value) (e : Int) (line : Nat) : Blk (lay2 wx vs vi e line) wx.heap.size 26 (jC vs vi) := ((lay0_j wx).row _).farRow (by omega) _
theorem FB.all {w wx : World} {g : Nat} {e : Int} {line : Nat} (h : FB w wx g e line) : wx.cell? ⟨g, 2, none⟩ = some (.int .i64 (if e = 0 then 0 else 1)) := h.b.is 2 rfl
noncomputable def loadHit (p : Value) (w : World) : Result Next := (execOp (fun _ => p) ⟨none, .load 62 (.tmp 0), 0, "", #[], none⟩).run Tryz.prog w
theorem load_hit (ρ : Operand → Value) (dst : Option Tmp) (x : Operand) (t : TypeId) (pos : String) (after : Array Edge) (gd : Option (Nat × Bool)) (w : World) :
    (execOp ρ ⟨dst, .load 62 x, t, pos, after, gd⟩).run Tryz.prog w = loadHit (ρ x) w := rfl
def StopStoreI (P : Program) (o : Oper) (a : Act) (w : World) (K : Act → World → Prop) (Q : Exit → Act → World → Prop) : Prop := Oper.wp P o a w K Q
theorem stop_hit (dst : Option Tmp) (x y : Operand) (t : TypeId) (pos : String) (after : Array Edge) (gd : Option (Nat × Bool)) (a : Act) (w : World) (K : Act → World → Prop) (Q : Exit → Act → World → Prop) :
    Oper.wp Tryz.prog ⟨dst, .store 62 x y, t, pos, after, gd⟩ a w K Q = StopStoreI Tryz.prog ⟨dst, .store 62 x y, t, pos, after, gd⟩ a w K Q := rfl
theorem StopStoreI.row {o : Oper} {a : Act} {w : World} {K : Act → World → Prop} {Q : Exit → Act → World → Prop} (x y : Operand) (ho : o.op = .store 62 x y) (g : Nat) (cells old : Array Value) (hx : a.eval x = .pointer (some ⟨g, 0, none⟩)) (hy : a.eval y = .agg cells)
    (hg : Blk w g 62 old) (hi : (Tryz.prog.info? 62).map (·.size) = some cells.size) (h1 : old.size = cells.size) (hc : cells.all (·.oneCell') = true) (h : K (a.put o.dst undef) (w.setRow g cells)) : StopStoreI Tryz.prog o a w K Q :=
  wp_store_row 62 x y ho g cells hx hy 62 old hg hi h1 hc h
structure SJ (w wx : World) (v0 v1 v2 v3 : Value) : Prop where
  b0 : Blk wx w.heap.size 26 (jC v0 v1)
  b1 : Blk wx (w.heap.size + 1) 26 (jC v2 v3)
  bel : Below w.heap.size w wx
theorem SJ.to {w wx wy : World} {v0 v1 v2 v3 : Value} (h : SJ w wx v0 v1 v2 v3) (hb : Below wx.heap.size wx wy) : SJ w wy v0 v1 v2 v3 :=
  ⟨h.b0.below hb h.b0.lt, h.b1.below hb h.b1.lt, h.bel.trans (hb.mono h.bel.size)⟩
theorem SJ.cells {w wx : World} {v0 v1 v2 v3 : Value} (h : SJ w wx v0 v1 v2 v3) : wx.cell? ⟨w.heap.size, 0, none⟩ = some v0 ∧ wx.cell? ⟨w.heap.size, 1, none⟩ = some v1 ∧ wx.cell? ⟨w.heap.size + 1, 0, none⟩ = some v2 ∧ wx.cell? ⟨w.heap.size + 1, 1, none⟩ = some v3 :=
  ⟨h.b0.is 0 rfl, h.b0.is 1 rfl, h.b1.is 0 rfl, h.b1.is 1 rfl⟩
theorem SJ.start (w : World) (v0 v1 v2 v3 : Value) : SJ w ((w.alloc (.cells (jC v0 v1) 26)).alloc (.cells (jC v2 v3) 26)) v0 v1 v2 v3 := by
  have h1 := (Below.refl w.heap.size w).alloc (Nat.le_refl _) (.cells (jC v0 v1) 26)
  refine ⟨(Blk.new w _ _).alloc _, ?_, h1.alloc h1.size _⟩
  have h := Blk.new (w.alloc (.cells (jC v0 v1) 26)) 26 (jC v2 v3)
  have hz : (w.alloc (.cells (jC v0 v1) 26)).heap.size = w.heap.size + 1 := by simp
  rwa [hz] at h
structure TB (w wx : World) (v0 v1 v2 v3 : Value) (r r' : HRw) (g7 g8 : Nat) : Prop where
  j : SJ w wx v0 v1 v2 v3
  b7 : Blk wx g7 62 (hiA r)
  b8 : Blk wx g8 62 (hiA r')
attribute [local go_sem ↓] load_hit stop_hit
end Go.Proofs.YtldjgpnbkbmgoaaGreatDoor

