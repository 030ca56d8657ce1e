/-
  The reference's Decode. Conditions: as each states.
-/
import Derived.Test.YtbfbcbhnknhgnaaDoorRefD
import Derived.Deep.RegionHeld3
import Derived.Deep.DrawnRows
import Derived.Deep.DeepCutAuto
namespace Go.Proofs.YtbfbcbhnknhgnaaDoor
open Go.RowKit Go.Lib

def byN (l : List UInt8) (i : Nat) : Nat := (l.getD i 0).toNat
theorem byN_lt (l : List UInt8) (i : Nat) : byN l i < 256 := (l.getD i 0).toNat_lt
/-- What stands ahead. -/
def headR (l : List UInt8) : Req := { zeroR 0 with op := byN l 0, tenant := byN l 1, user := 256 * (byN l 2 : Int) + (byN l 3 : Int), secret := beNat ((l.drop 4).take 8), m := byN l 12 }
/-- What the reference's Decode gives behind the first bytes; -/
def rdec2 (q : Req) (r : List UInt8) : Req × Int :=
  if isOp q.op = false then (zeroR 0, 51) else
  if 64 < q.m then (zeroR 0, 33) else
  if r.length < fieldsN q.op then (zeroR 0, 50) else
  if (q.op ≠ 3 ∧ fieldsN q.op < r.length) ∨ 512 < r.length then (zeroR 0, 2) else
  if rangeB (withR q (cutN r (widths q.op)) (if q.op = 3 then r else [])) = false then (zeroR 0, 33) else (withR q (cutN r (widths q.op)) (if q.op = 3 then r else []), 0)
def rdec (l : List UInt8) : Req × Int := if l.length < 13 then (zeroR 0, 50) else rdec2 (headR l) (l.drop 13)

theorem by_at {w : World} {b off : Nat} {l : List UInt8} (h : Lay w b off (l.flatMap byC)) (i : Nat) (hi : i < l.length) : w.cell? ⟨b, off + i, none⟩ = some (.int .u8 (byN l i : Nat)) := by
  have := (h.elem byC_len i hi).by
  rw [Nat.mul_one] at this
  rw [this]
  unfold byN
  rw [List.getD_eq_getElem?_getD, List.getElem?_eq_getElem hi]
  rfl
theorem by_at0 {w : World} {b off : Nat} {l : List UInt8} (h : Lay w b off (l.flatMap byC)) (hi : 0 < l.length) : w.cell? ⟨b, off, none⟩ = some (.int .u8 (byN l 0 : Nat)) := by_at h 0 hi
theorem wrap_byte64 {z : Nat} (hz : z < 256) : IntKind.i64.wrap (z : Int) = (z : Int) := by rw [IntKind.wrap_i64]; omega
theorem wrap_two {x y : Nat} (hx : x < 256) (hy : y < 256) : IntKind.i64.wrap (256 * (x : Int)) = 256 * (x : Int) ∧ IntKind.i64.wrap (256 * (x : Int) + (y : Int)) = 256 * (x : Int) + (y : Int) := by
  constructor
  · rw [IntKind.wrap_i64]; omega
  · rw [IntKind.wrap_i64]; omega

/-- A store of a great struct stands still in a walk till a law is handed in. -/
def StopStore (P : Program) (o : Oper) (a : Act) (w : World) (K : Act → World → Prop) (Q : Exit → Act → World → Prop) : Prop := Oper.wp P o a w K Q
@[local go_sem ↓] theorem stop_req (dst : Option Tmp) (x y : Operand) (t : TypeId) (pos : String) (after : Array Edge) (gd : Option (Nat × Bool)) (a : Act) (w : World) (K : Act → World → Prop) (Q : Exit → Act → World → Prop) :
    Oper.wp Tryd.prog ⟨dst, .store 30 x y, t, pos, after, gd⟩ a w K Q = StopStore Tryd.prog ⟨dst, .store 30 x y, t, pos, after, gd⟩ a w K Q := rfl
theorem StopStore.row {o : Oper} {a : Act} {w : World} {K : Act → World → Prop} {Q : Exit → Act → World → Prop} (x y : Operand) (ho : o.op = .store 30 x y) (g : Nat) (cells old : Array Value) (hx : a.eval x = .pointer (some ⟨g, 0, none⟩)) (hy : a.eval y = .agg cells)
    (hg : Blk w g 30 old) (hi : (Tryd.prog.info? 30).map (·.size) = some cells.size) (h1 : old.size = cells.size) (hc : cells.all (·.oneCell') = true) (h : K (a.put o.dst undef) (w.setRow g cells)) : StopStore Tryd.prog o a w K Q :=
  wp_store_row 30 x y ho g cells hx hy 30 old hg hi h1 hc h

/-- A load of a request, kept whole in a walk. -/
noncomputable def loadReq (p : Value) (w : World) : Result Next := (execOp (fun _ => p) ⟨none, .load 30 (.tmp 0), 0, "", #[], none⟩).run Tryd.prog w
@[local go_sem ↓] theorem load_req (ρ : Operand → Value) (dst : Option Tmp) (x : Operand) (t : TypeId) (pos : String) (after : Array Edge) (gd : Option (Nat × Bool)) (w : World) :
    (execOp ρ ⟨dst, .load 30 x, t, pos, after, gd⟩).run Tryd.prog w = loadReq (ρ x) w := rfl
theorem loadReq_row {w : World} {g : Nat} {q : Req} (h : Blk w g 30 (rqC q)) : loadReq (.pointer (some ⟨g, 0, none⟩)) w = .ok (.value (.agg (rqC q))) w := by
  unfold loadReq execOp
  simp only [Instr.loadAt, Instr.sureAddr, Sem.run_bind, Sem.run_pure, Result.andThen_ok, run_loadVar_row w g _ _ (rqC q) (0, 0) _ h Tryd.underlying30 rfl (rq_size q)]
end Go.Proofs.YtbfbcbhnknhgnaaDoor
