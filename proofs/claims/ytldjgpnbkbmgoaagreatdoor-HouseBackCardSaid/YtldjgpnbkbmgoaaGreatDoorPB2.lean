/-
  The reference's Values, an operation each. Conditions: as each states. PRINTED BY genvals.py. WireBack holds: for any request and any bytes: the law returns true, and its arguments read as they did. Conditions: none. The bytes that the reference writes, as plain lists; what is decoded is written so as it stood. Conditions: none. A job's items: how they lie, in the program's type and in the referen
-/
import Derived.Test.YtldjgpnbkbmgoaaGreatDoorPut
import Derived.Test.YtldjgpnbkbmgoaaGreatDoorPB1
import Derived.Deep.DeepCutAuto
import Derived.Deep.MidRow
import Derived.Deep.DeepMust
set_option linter.unusedSimpArgs false
set_option linter.unusedVariables false
set_option maxRecDepth 100000
set_option maxHeartbeats 8000000
namespace Go.Proofs.YtldjgpnbkbmgoaaGreatDoor
open Go.RowKit Go.Lib
attribute [local go_sem ↓] load_req stop_req
def izC (x : Int) : List Value := [.int .i64 x]
structure SlN {α : Type} (enc : α → List Value) (w : World) (B : Nat) (v : Value) (l : List α) : Prop where
  ex : ∃ g, v = .slice (some ⟨g, 0, none⟩) l.length l.length ∧ B ≤ g ∧ g < w.heap.size ∧ Lay w g 0 (l.flatMap enc)
end Go.Proofs.YtldjgpnbkbmgoaaGreatDoor

namespace Go.Proofs.YtldjgpnbkbmgoaaGreatDoor
open Go.RowKit Go.ChangeShapes Go.WideShapes Go.Lib
attribute [local go_sem ↓] load_req stop_req
theorem RQ.stored {w wx : World} {q : Req} (h : RQ w wx q) (d : Req) : RQ w ((wx.alloc (.cells zeroC 60)).setRow wx.heap.size (rqC d)) q :=
  ⟨(h.b0.alloc _).farRow (Nat.ne_of_lt h.b0.lt) _, below_setRow (h.bel.alloc h.bel.size _) h.bel.size _⟩
@[go_sem high] theorem eqReq0 (x : Req) (w : World) : (Op.equalIn 10000 60 (.agg (rqC x)) (.agg zeroC)).run Tryz.prog w = .ok (reqEq x (zeroR 0)) w := eqReq x (zeroR 0) w
end Go.Proofs.YtldjgpnbkbmgoaaGreatDoor

namespace Go.Proofs.YtldjgpnbkbmgoaaGreatDoor
open Go.RowKit Go.Lib
def Req.ib (q : Req) : Prop := ∀ x ∈ [q.op, q.tenant, q.user, q.m, q.whom, q.role, q.tier, q.quota, q.rights, q.zoom, q.x0, q.y0, q.x1, q.y1, q.til, q.pk, q.ax, q.ay, q.label, q.frm], x < 9223372036854775808
end Go.Proofs.YtldjgpnbkbmgoaaGreatDoor

namespace Go.Proofs.YtldjgpnbkbmgoaaGreatDoor
open Go.RowKit Go.Lib
attribute [local go_sem ↓] load_req stop_req
structure HRw where
  x : HIt
  A : Option Addr
  cap : Nat
def hiC (r : HRw) : List Value := [.int .i64 r.x.kind, .int .i64 r.x.conn, .slice r.A r.x.bs.length r.cap, .int .u64 r.x.draw, .int .i64 r.x.n] ++ (rqC r.x.q).toList
def hiA (r : HRw) : Array Value := (hiC r).toArray
theorem hiC_len (r : HRw) : (hiC r).length = 29 := rfl
theorem rqC_one (q : Req) : ∀ u ∈ (rqC q).toList, u.oneCell' = true := fun u hu => Array.all_eq_true_iff_forall_mem.1 (rq_one q) u (by simpa using hu)
theorem hi_enc : EncOk hiC 29 := ⟨hiC_len, fun r u hu => by
  unfold hiC at hu
  rw [List.mem_append] at hu
  rcases hu with hu | hu
  · simp only [List.mem_cons, List.not_mem_nil, or_false] at hu
    rcases hu with rfl | rfl | rfl | rfl | rfl <;> rfl
  · exact rqC_one r.x.q u hu⟩
theorem hiA_size (r : HRw) : (hiA r).size = 29 := rfl
theorem hiA_one (r : HRw) : (hiA r).all (·.oneCell') = true := all_oneCell_toArray (hi_enc.one r)
theorem hit_size (r : HRw) : (Tryz.prog.info? 62).map (·.size) = some (hiA r).size := by
  rw [hiA_size]; kernel_rfl
abbrev zeroHi : Array Value := #[.int .i64 0, .int .i64 0, .slice none 0 0, .int .u64 0, .int .i64 0, .int .i64 0, .int .i64 0, .int .i64 0, .int .u64 0, .int .i64 0, .int .i64 0, .int .i64 0, .int .i64 0, .int .i64 0, .string ⟨#[]⟩, .int .i64 0, .int .i64 0, .int .i64 0, .int .i64 0, .int .i64 0, .int .i64 0, .int .i64 0, .int .u64 0, .int .i64 0, .int .u64 0, .int .i64 0, .int .i64 0, .int .i64 0, .int .i64 0]
theorem load_arr {P : Program} {ops : Array Oper} {rest : List Oper} {op : Oper} {a : Act} {w : World} {Q : Exit → Act → World → Prop} (hgd : op.guard = none) (ty : TypeId) (x : Operand) (ho : op.op = .load ty x)
    (b o : Nat) (hx : a.eval x = .pointer (some ⟨b, o, none⟩)) (cs : Array Value) (d : TypeDesc) (hc : Lay w b o cs.toList)
    (hu : P.underlying ty = some d) (hd : d.isRow = true) (hi : (P.info? ty).map (·.size) = some cs.size)
    (h : wpList P ops Q rest (a.put op.dst (.agg cs)) w) : wpList P ops Q (op :: rest) a w :=
  wpList_load_mid hgd ty x ho b o hx cs.toList d hc hu hd (by simpa using hi) (by simpa using h)
structure HOk (w : World) (r : HRw) : Prop where
  sl : Sl byC w w.heap.size (.slice r.A r.x.bs.length r.cap) r.x.bs
  q : r.x.q.fits
  ib : r.x.q.ib
  dr : r.x.fits
theorem HOk.below {w w' : World} {r : HRw} (h : HOk w r) (hb : Below w.heap.size w w') : HOk w' r := ⟨(h.sl.below hb).more hb.size, h.q, h.ib, h.dr⟩
theorem HOk.drewN {w : World} {r : HRw} (h : HOk w r) (n : Nat) : HOk (w.drewN n) r := ⟨h.sl.drewN n, h.q, h.ib, h.dr⟩
structure HBx (T : TypeId) (w wx : World) (g : Nat) (r : HRw) : Prop where
  b0 : Blk wx g T (hiA r)
  bel : Below w.heap.size w wx
theorem HBx.below {T : TypeId} {w wx wy : World} {g : Nat} {r : HRw} (h : HBx T w wx g r) (hb : Below wx.heap.size wx wy) : HBx T w wy g r := ⟨h.b0.below hb h.b0.lt, h.bel.trans (hb.mono h.bel.size)⟩
theorem HBx.drew {T : TypeId} {w wx : World} {g : Nat} {r : HRw} (h : HBx T w wx g r) : HBx T w wx.drew g r := ⟨h.b0, below_drew h.bel⟩
theorem HBx.drewN {T : TypeId} {w wx : World} {g : Nat} {r : HRw} (h : HBx T w wx g r) (n : Nat) : HBx T w (wx.drewN n) g r := ⟨h.b0.drewN n, below_drewN h.bel n⟩
theorem HBx.new (T : TypeId) (w : World) (r : HRw) : HBx T w (w.alloc (.cells (hiA r) T)) w.heap.size r := ⟨Blk.new w T _, (Below.refl _ _).alloc (Nat.le_refl _) _⟩
theorem HBx.kind {T : TypeId} {w wx : World} {g : Nat} {r : HRw} (h : HBx T w wx g r) : wx.cell? ⟨g, 0, none⟩ = some (.int .i64 r.x.kind) := h.b0.is 0 rfl
theorem HBx.conn {T : TypeId} {w wx : World} {g : Nat} {r : HRw} (h : HBx T w wx g r) : wx.cell? ⟨g, 1, none⟩ = some (.int .i64 r.x.conn) := h.b0.is 1 rfl
theorem HBx.bs {T : TypeId} {w wx : World} {g : Nat} {r : HRw} (h : HBx T w wx g r) : wx.cell? ⟨g, 2, none⟩ = some (.slice r.A r.x.bs.length r.cap) := h.b0.is 2 rfl
theorem HBx.draw {T : TypeId} {w wx : World} {g : Nat} {r : HRw} (h : HBx T w wx g r) : wx.cell? ⟨g, 3, none⟩ = some (.int .u64 (r.x.draw : Nat)) := h.b0.is 3 rfl
theorem HBx.n {T : TypeId} {w wx : World} {g : Nat} {r : HRw} (h : HBx T w wx g r) : wx.cell? ⟨g, 4, none⟩ = some (.int .i64 r.x.n) := h.b0.is 4 rfl
theorem HBx.q {T : TypeId} {w wx : World} {g : Nat} {r : HRw} (h : HBx T w wx g r) : Lay wx g 5 (rqC r.x.q).toList := by
  have h1 : Lay wx g 0 (hiC r) := h.b0.lay
  have h2 := h1.drop 5
  rwa [Nat.zero_add] at h2
theorem HBx.all {T : TypeId} {w wx : World} {g : Nat} {r : HRw} (h : HBx T w wx g r) : Lay wx g 0 (hiA r).toList := h.b0.lay
end Go.Proofs.YtldjgpnbkbmgoaaGreatDoor

