/-
  The reference's Decode. Conditions: as each states.
-/
import Derived.Test.YtldjgpnbkbmgoaaGreatDoorRefD
import Derived.Deep.RegionHeld3
import Derived.Deep.DrawnRows
import Derived.Deep.DeepCutAuto
namespace Go.Proofs.YtldjgpnbkbmgoaaGreatDoor
open Go.RowKit Go.Lib

def byN (l : List UInt8) (i : Nat) : Nat := (l.getD i 0).toNat
theorem byN_lt (l : List UInt8) (i : Nat) : byN l i < 256 := (l.getD i 0).toNat_lt
/-- What stands ahead. -/
def headR (l : List UInt8) : Req := { zeroR 0 with op := byN l 0, tenant := byN l 1, user := 256 * (byN l 2 : Int) + (byN l 3 : Int), secret := beNat ((l.drop 4).take 8), m := byN l 12 }
/-- What the reference's Decode gives behind the first bytes; -/
def rdec2 (q : Req) (r : List UInt8) : Req × Int :=
  if isOp q.op = false then (zeroR 0, 51) else
  if 64 < q.m then (zeroR 0, 33) else
  if r.length < fieldsN q.op then (zeroR 0, 50) else
  if (q.op ≠ 3 ∧ fieldsN q.op < r.length) ∨ 512 < r.length then (zeroR 0, 2) else
  if rangeB (withR q (cutN r (widths q.op)) (if q.op = 3 then r else [])) = false then (zeroR 0, 33) else (withR q (cutN r (widths q.op)) (if q.op = 3 then r else []), 0)
def rdec (l : List UInt8) : Req × Int := if l.length < 13 then (zeroR 0, 50) else rdec2 (headR l) (l.drop 13)

theorem by_at {w : World} {b off : Nat} {l : List UInt8} (h : Lay w b off (l.flatMap byC)) (i : Nat) (hi : i < l.length) : w.cell? ⟨b, off + i, none⟩ = some (.int .u8 (byN l i : Nat)) := by
  have := (h.elem byC_len i hi).by
  rw [Nat.mul_one] at this
  rw [this]
  unfold byN
  rw [List.getD_eq_getElem?_getD, List.getElem?_eq_getElem hi]
  rfl
theorem by_at0 {w : World} {b off : Nat} {l : List UInt8} (h : Lay w b off (l.flatMap byC)) (hi : 0 < l.length) : w.cell? ⟨b, off, none⟩ = some (.int .u8 (byN l 0 : Nat)) := by_at h 0 hi
theorem wrap_byte64 {z : Nat} (hz : z < 256) : IntKind.i64.wrap (z : Int) = (z : Int) := by rw [IntKind.wrap_i64]; omega
theorem wrap_two {x y : Nat} (hx : x < 256) (hy : y < 256) : IntKind.i64.wrap (256 * (x : Int)) = 256 * (x : Int) ∧ IntKind.i64.wrap (256 * (x : Int) + (y : Int)) = 256 * (x : Int) + (y : Int) := by
  constructor
  · rw [IntKind.wrap_i64]; omega
  · rw [IntKind.wrap_i64]; omega

structure SecAt (B : Nat) (v : Value) (l : List UInt8) (w : World) : Prop where
  sl : Sl byC w B v l
  le : B ≤ w.heap.size
theorem SecAt.alloc {B : Nat} {v : Value} {l : List UInt8} {w : World} (h : SecAt B v l w) (o : Obj) : SecAt B v l (w.alloc o) :=
  ⟨h.sl.below ((Below.refl B w).alloc h.le o), Nat.le_trans h.le (by simp)⟩
theorem SecAt.drew {B : Nat} {v : Value} {l : List UInt8} {w : World} (h : SecAt B v l w) : SecAt B v l w.drew := ⟨h.sl, h.le⟩
theorem sec_get {B : Nat} {v : Value} {l : List UInt8} {w : World} (h : SecAt B v l w) (hl : l.length ≤ 8) :
    Calls Tryz.prog 105 #[v] w fun e w' => e = .returned (.int .u64 (beNat l : Nat)) ∧ w = w' := (rget_ok l v w B h.sl hl).mono fun _ _ ⟨a, b⟩ => ⟨a, b.symm⟩
attribute [local go_sem ↓] Go.wp_at_zero Go.wp_at_succ

/-- A store of a great struct stands still in a walk till a law is handed in. -/
def StopStore (P : Program) (o : Oper) (a : Act) (w : World) (K : Act → World → Prop) (Q : Exit → Act → World → Prop) : Prop := Oper.wp P o a w K Q
@[local go_sem ↓] theorem stop_req (dst : Option Tmp) (x y : Operand) (t : TypeId) (pos : String) (after : Array Edge) (gd : Option (Nat × Bool)) (a : Act) (w : World) (K : Act → World → Prop) (Q : Exit → Act → World → Prop) :
    Oper.wp Tryz.prog ⟨dst, .store 60 x y, t, pos, after, gd⟩ a w K Q = StopStore Tryz.prog ⟨dst, .store 60 x y, t, pos, after, gd⟩ a w K Q := rfl
theorem StopStore.row {o : Oper} {a : Act} {w : World} {K : Act → World → Prop} {Q : Exit → Act → World → Prop} (x y : Operand) (ho : o.op = .store 60 x y) (g : Nat) (cells old : Array Value) (hx : a.eval x = .pointer (some ⟨g, 0, none⟩)) (hy : a.eval y = .agg cells)
    (hg : Blk w g 60 old) (hi : (Tryz.prog.info? 60).map (·.size) = some cells.size) (h1 : old.size = cells.size) (hc : cells.all (·.oneCell') = true) (h : K (a.put o.dst undef) (w.setRow g cells)) : StopStore Tryz.prog o a w K Q :=
  wp_store_row 60 x y ho g cells hx hy 60 old hg hi h1 hc h

/-- A load of a request, kept whole in a walk. -/
noncomputable def loadReq (p : Value) (w : World) : Result Next := (execOp (fun _ => p) ⟨none, .load 60 (.tmp 0), 0, "", #[], none⟩).run Tryz.prog w
@[local go_sem ↓] theorem load_req (ρ : Operand → Value) (dst : Option Tmp) (x : Operand) (t : TypeId) (pos : String) (after : Array Edge) (gd : Option (Nat × Bool)) (w : World) :
    (execOp ρ ⟨dst, .load 60 x, t, pos, after, gd⟩).run Tryz.prog w = loadReq (ρ x) w := rfl
theorem loadReq_row {w : World} {g : Nat} {q : Req} (h : Blk w g 60 (rqC q)) : loadReq (.pointer (some ⟨g, 0, none⟩)) w = .ok (.value (.agg (rqC q))) w := by
  unfold loadReq execOp
  simp only [Instr.loadAt, Instr.sureAddr, Sem.run_bind, Sem.run_pure, Result.andThen_ok, run_loadVar_row w g _ _ (rqC q) (0, 0) _ h Tryz.underlying60 rfl (rq_size q)]

theorem cut_small : ∀ (ws : List Nat) (r : List UInt8) (i x : Nat), (cutN r ws)[i]? = some x → ws.getD i 8 ≤ 4 → x < 4294967296
  | [], r, i, x, h, _ => by simp [cutN] at h
  | y :: ws, r, 0, x, h, h4 => by
    simp only [cutN, List.getElem?_cons_zero, Option.some.injEq] at h
    have h4 : y ≤ 4 := by simpa using h4
    have h1 : (r.take y).length ≤ 4 := by simp; omega
    have := beNat_lt (r.take y).length (r.take y) rfl
    rw [h] at this
    exact Nat.lt_of_lt_of_le this (Nat.le_trans (Nat.pow_le_pow_right (by omega) h1) (by decide))
  | y :: ws, r, i + 1, x, h, h4 => by
    simp only [cutN, List.getElem?_cons_succ] at h
    exact cut_small ws _ i x h (by simpa using h4)
theorem rfields_eq (op x : Int) (hx : x = op) (h : isOp op = true) (w : World) : Calls Tryz.prog 76 #[.int .i64 x] w fun e w' => ∃ v, e = .returned v ∧ Sl inC w' w'.heap.size v (widths op) ∧ Below w.heap.size w w' := by
  subst hx
  exact rfields_ok x h w
/-- The three requests of the reference's Decode: what comes back, none, and r. -/
structure RS (w wx : World) (q : Req) : Prop where
  b0 : Blk wx w.heap.size 60 zeroC
  b1 : Blk wx (w.heap.size + 1) 60 zeroC
  b2 : Blk wx (w.heap.size + 1 + 1) 60 (rqC q)
  bel : Below w.heap.size w wx
theorem RS.below {w wx wy : World} {q : Req} (h : RS w wx q) (hb : Below wx.heap.size wx wy) : RS w wy q :=
  ⟨h.b0.below hb h.b0.lt, h.b1.below hb h.b1.lt, h.b2.below hb h.b2.lt, h.bel.trans (hb.mono h.bel.size)⟩

set_option maxRecDepth 100000 in
set_option maxHeartbeats 4000000 in
theorem rdecode_ok (l : List UInt8) (s : Value) (w : World) (hs : Sl byC w w.heap.size s l) : Calls Tryz.prog 77 #[s] w (DPost w (rdec l)) := by
  have HS := Lib.hid hs
  obtain ⟨A, cap, rfl, h1, h2, h3⟩ := hs
  have hb0 := Blk.new w 60 zeroC
  have hW0 := (Below.refl w.heap.size w).alloc (Nat.le_refl _) (.cells zeroC 60)
  have hz0 : (w.alloc (.cells zeroC 60)).heap.size = w.heap.size + 1 := by simp
  obtain ⟨w0, hst0⟩ : ∃ w0, w.alloc (.cells zeroC 60) = w0 := ⟨_, rfl⟩
  rw [hst0] at hb0 hW0 hz0
  have hb1 := Blk.new w0 60 zeroC
  have hb0 := hb0.alloc (.cells zeroC 60)
  have hW1 := hW0.alloc (by omega) (.cells zeroC 60)
  have hz1 : (w0.alloc (.cells zeroC 60)).heap.size = w.heap.size + 1 + 1 := by simp [hz0]
  obtain ⟨w1, hst1⟩ : ∃ w1, w0.alloc (.cells zeroC 60) = w1 := ⟨_, rfl⟩
  rw [hst1] at hb0 hb1 hW1 hz1
  rw [hz0] at hb1
  unfold maxLen at h2
  have hB0 := Lib.hid hb0
  have hB1 := Lib.hid hb1
  have hW1 := Lib.hid hW1
  clear hb0 hb1 hW0
  by_cases hl : l.length < 13
  · have hd := Lib.hid (show rdec l = (zeroR 0, 50) by unfold rdec; rw [if_pos hl])
    clear h3
    go_enter Tryz.func77, Tryz.ntmps77
    go_wp2_with (first | (refine wpList_load_row rfl 60 (.tmp 4) rfl (w.heap.size + 1) rfl 60 zeroC (0, 0) _ hB1.out Tryz.underlying60 rfl zero_size ?_) | (refine wpList_store_row rfl 60 (.tmp 2) (.tmp 11) rfl w.heap.size zeroC rfl rfl 60 zeroC hB0.out zero_size rfl zero_one ?_))
    refine bodyPost_ret (results_cell_tmp rfl _ _ w.heap.size 60 zeroC (0, 0) _ rfl (hB0.out.row _) Tryz.underlying60 rfl (by kernel_rfl)) rfl ?_
    exact ⟨by rw [hd.out]; rfl, below_setRow hW1.out (Nat.le_refl _) _⟩
  · have hd := Lib.hid (show rdec l = rdec2 (headR l) (l.drop 13) by unfold rdec; rw [if_neg hl])
    obtain ⟨b, off, rfl, hb, hlay⟩ := h3 (by omega)
    have hlay := hlay.below hW1.out hb
    have hlayd : Lay w1 b off (l.flatMap byC) := hlay
    have hnb : w1.heap.size ≠ b := by omega
    have hnb2 : w.heap.size + 1 + 1 ≠ b := by omega
    have c0 := by_at0 hlayd (by omega)
    have c1 := by_at hlayd 1 (by omega)
    have c2 := by_at hlayd 2 (by omega)
    have c3 := by_at hlayd 3 (by omega)
    have c12 := by_at hlayd 12 (by omega)
    have hB0d := Lib.hid (show Blk w1.drew _ _ _ from hB0.out)
    have hB1d := Lib.hid (show Blk w1.drew _ _ _ from hB1.out)
    have hW1d := Lib.hid (below_drew hW1.out)
    have HNEW := Lib.hid (show Blk (w1.alloc (.cells zeroC 60)).drew (w.heap.size + 1 + 1) 60 zeroC by have h := Blk.new w1 60 zeroC; rw [hz1] at h; exact h)
    have hz1d : w1.drew.heap.size = w.heap.size + 1 + 1 := hz1
    have hsec : Sl byC w1.drew w.heap.size (.slice (cutA (some ⟨b, off, none⟩) cap 4 1) 8 (cap - 4)) ((l.drop 4).take 8) := by
      have h := (HS.out.below hW1d.out).mid by_enc (i := 4) (j := 12) (by omega) (by omega)
      rw [show (12 : Nat) = 4 + 8 from rfl, drop_take_eq] at h
      exact h
    have HSA := Lib.hid (show SecAt w.heap.size (.slice (cutA (some ⟨b, off, none⟩) cap 4 1) 8 (cap - 4)) ((l.drop 4).take 8) w1 from ⟨hsec, hW1d.out.size⟩)
    have hmid : ∀ w : World, (Instr.slice 52 (.slice (some ⟨b, off, none⟩) l.length cap) (some (.int .i64 4)) (some (.int .i64 12)) none).run Tryz.prog w = .ok (.slice (cutA (some ⟨b, off, none⟩) cap 4 1) 8 (cap - 4)) w := fun w => run_slice_both Tryz.underlying52 Tryz.sizeOf5 w _ l.length cap 4 12 .i64 .i64 (by omega) (by omega)
    obtain ⟨x0, e0⟩ : ∃ x, byN l 0 = x := ⟨_, rfl⟩
    obtain ⟨x1, e1⟩ : ∃ x, byN l 1 = x := ⟨_, rfl⟩
    obtain ⟨x2, e2⟩ : ∃ x, byN l 2 = x := ⟨_, rfl⟩
    obtain ⟨x3, e3⟩ : ∃ x, byN l 3 = x := ⟨_, rfl⟩
    obtain ⟨x12, e12⟩ : ∃ x, byN l 12 = x := ⟨_, rfl⟩
    have v0 := byN_lt l 0
    have v1 := byN_lt l 1
    have v2 := byN_lt l 2
    have v3 := byN_lt l 3
    have v12 := byN_lt l 12
    rw [e0] at c0 v0
    rw [e1] at c1 v1
    rw [e2] at c2 v2
    rw [e3] at c3 v3
    rw [e12] at c12 v12
    have hh : headR l = { zeroR 0 with op := x0, tenant := x1, user := 256 * (x2 : Int) + (x3 : Int), secret := beNat ((l.drop 4).take 8), m := x12 } := by unfold headR; rw [e0, e1, e2, e3, e12]
    rw [hh] at hd
    have y0 := wrap_byte64 v0
    have y1 := wrap_byte64 v1
    have y2 := wrap_byte64 v2
    have y3 := wrap_byte64 v3
    have y12 := wrap_byte64 v12
    obtain ⟨y4, y5⟩ := wrap_two v2 v3
    have hl0 : 0 < l.length := by omega
    have hl1 : (1 : Int) < (l.length : Int) := by omega
    have hl2 : (2 : Int) < (l.length : Int) := by omega
    have hl3 : (3 : Int) < (l.length : Int) := by omega
    have hl12 : (12 : Int) < (l.length : Int) := by omega
    have hle8 : ((l.drop 4).take 8).length ≤ 8 := by rw [List.length_take]; omega
    have hset : ∀ (row : Array Value) (o : Nat) (v : Value), w1.cell? ⟨b, o, none⟩ = some v → (((w1.alloc (.cells zeroC 60)).drew).setRow (w.heap.size + 1 + 1) row).cell? ⟨b, o, none⟩ = some v := fun row o v hv => by
      rw [cell_setRow_other _ _ _ _ (by simp; omega)]
      exact (World.cell?_alloc_some w1 ⟨b, o, none⟩ _ (by rw [hv]; rfl)).trans hv
    have HSET := Lib.hid (fun row => And.intro (hset row _ _ c0) (And.intro (hset row _ _ c1) (And.intro (hset row _ _ c2) (And.intro (hset row _ _ c3) (hset row _ _ c12)))))
    clear hset hlay hlayd h3 hsec e0 e1 e2 e3 e12 hh
    go_enter Tryz.func77, Tryz.ntmps77
    go_upto_region 4 with fail
    go_cut [5] (fun v wx => v = .pointer (some ⟨w.heap.size + 1 + 1, 0, none⟩) ∧ RS w wx { zeroR 0 with op := x0, tenant := x1, user := 256 * (x2 : Int) + (x3 : Int), secret := beNat ((l.drop 4).take 8), m := x12 })
    case first =>
      go_region_held3 (fun w' => w'.cell? ⟨b, off, none⟩ = some (.int .u8 (x0 : Nat)) ∧ w'.cell? ⟨b, off + 1, none⟩ = some (.int .u8 (x1 : Nat)) ∧ w'.cell? ⟨b, off + 2, none⟩ = some (.int .u8 (x2 : Nat)) ∧ w'.cell? ⟨b, off + 3, none⟩ = some (.int .u8 (x3 : Nat)) ∧ w'.cell? ⟨b, off + 12, none⟩ = some (.int .u8 (x12 : Nat))) (first | go_keep | exact HSET.out _)
        (first | ((with_reducible refine (sec_get (B := w.heap.size) (v := .slice (cutA (some ⟨b, off, none⟩) cap 4 1) 8 (cap - 4)) (l := (l.drop 4).take 8) ?_ hle8).mono ?_); (first | exact HSA.out.drew | exact (HSA.out.alloc _).drew); rintro e w' ⟨rfl, rfl⟩) | (refine StopStore.row (.tmp 5) (.tmp 37) rfl (w.heap.size + 1 + 1) (rqC { zeroR 0 with op := x0, tenant := x1, user := 256 * (x2 : Int) + (x3 : Int), secret := beNat ((l.drop 4).take 8), m := x12 }) zeroC rfl rfl HNEW.out (rq_size _) rfl (rq_one _) ?_))
      all_goals
        go_wp2_with fail
        go_meet
        exact ⟨rfl, ⟨((show Blk _ _ _ _ from hB0d.out).alloc _).farRow (by omega) _, ((show Blk _ _ _ _ from hB1d.out).alloc _).farRow (by omega) _, HNEW.out.row _, below_setRow (below_drew (hW1.out.alloc hW1.out.size _)) (by omega) _⟩⟩
    case rest =>
    obtain ⟨rfl, hR⟩ := hcut
    have HR := Lib.hid hR
    clear hR hB0 hB1 hW1 hB0d hB1d hW1d HNEW hz1d hz1 hz0 hst0 hst1 hnb hnb2 HSA hmid c0 c1 c2 c3 c12 y0 y1 y2 y3 y12 y4 y5 hl1 hl2 hl3 hl12 hle8 HSET hb0
    obtain ⟨q, hq⟩ : ∃ q, ({ zeroR 0 with op := x0, tenant := x1, user := 256 * (x2 : Int) + (x3 : Int), secret := beNat ((l.drop 4).take 8), m := x12 } : Req) = q := ⟨_, rfl⟩
    rw [hq] at hd HR
    have hrr : ∃ r, r = l.drop 13 := ⟨_, rfl⟩
    obtain ⟨r, hr⟩ := hrr
    rw [← hr] at hd
    have hrl : r.length = l.length - 13 := by rw [hr, List.length_drop]
    have hc13 : Sl byC w w.heap.size (.slice (cutA (some ⟨b, off, none⟩) cap 13 1) (l.length - 13) (cap - 13)) r := by rw [hr]; exact HS.out.cut by_enc (by omega)
    obtain ⟨A2, hA2⟩ : ∃ A2, cutA (some ⟨b, off, none⟩) cap 13 1 = A2 := ⟨_, rfl⟩
    obtain ⟨c2, hc2⟩ : ∃ c2, cap - 13 = c2 := ⟨_, rfl⟩
    rw [hA2, hc2, ← hrl] at hc13
    have hrun : ∀ w, (Instr.slice 52 (.slice (some ⟨b, off, none⟩) l.length cap) (some (.int .i64 13)) none none).run Tryz.prog w = .ok (.slice A2 r.length c2) w := fun w => by
      rw [← hA2, ← hc2, hrl]
      exact run_slice_lo Tryz.underlying52 Tryz.sizeOf5 w _ l.length cap 13 .i64 (by omega)
    have HC := Lib.hid hc13
    have hrm := hc13.len
    unfold maxLen at hrm
    have HRL := Lib.hid hrl
    clear hA2 hc2 hc13
    have e0 : wc.cell? ⟨w.heap.size + 1 + 1, 0, none⟩ = some (.int .i64 q.op) := HR.out.b2.is 0 rfl
    have e4 : wc.cell? ⟨w.heap.size + 1 + 1, 4, none⟩ = some (.int .i64 q.m) := HR.out.b2.is 4 rfl
    clear hq hr hrl v0 v1 v2 v3 v12
    go_wp2_with fail
    refine (rthere_ok q.op _).mono ?_
    rintro e w' ⟨rfl, hw'⟩
    rw [hw']
    clear hw' w'
    by_cases hop : isOp q.op = true
    rotate_left
    · have HD := Lib.hid (show rdec2 q r = (zeroR 0, 51) by unfold rdec2; rw [if_pos (by simpa using hop)])
      rw [Bool.not_eq_true] at hop
      rw [hop]
      go_wp2_with (first | (refine wpList_load_row rfl 60 (.tmp 4) rfl (w.heap.size + 1) rfl 60 zeroC (0, 0) _ HR.out.b1 Tryz.underlying60 rfl zero_size ?_) | (refine wpList_store_row rfl 60 (.tmp 2) (.tmp 42) rfl w.heap.size zeroC rfl rfl 60 zeroC HR.out.b0 zero_size rfl zero_one ?_))
      refine bodyPost_ret (results_cell_tmp rfl _ _ w.heap.size 60 zeroC (0, 0) _ rfl (HR.out.b0.row _) Tryz.underlying60 rfl (by kernel_rfl)) rfl ?_
      exact ⟨by rw [hd.out, HD.out]; rfl, below_setRow HR.out.bel (Nat.le_refl _) _⟩
    rw [hop]
    by_cases hm : 64 < q.m
    · have HD := Lib.hid (show rdec2 q r = (zeroR 0, 33) by unfold rdec2; rw [if_neg (by rw [hop]; decide), if_pos hm])
      go_wp2_with (first | (refine wpList_load_row rfl 60 (.tmp 4) rfl (w.heap.size + 1) rfl 60 zeroC (0, 0) _ HR.out.b1 Tryz.underlying60 rfl zero_size ?_) | (refine wpList_store_row rfl 60 (.tmp 2) (.tmp 46) rfl w.heap.size zeroC rfl rfl 60 zeroC HR.out.b0 zero_size rfl zero_one ?_))
      refine bodyPost_ret (results_cell_tmp rfl _ _ w.heap.size 60 zeroC (0, 0) _ rfl (HR.out.b0.row _) Tryz.underlying60 rfl (by kernel_rfl)) rfl ?_
      exact ⟨by rw [hd.out, HD.out]; rfl, below_setRow HR.out.bel (Nat.le_refl _) _⟩
    have HM := Lib.hid (show ¬ 64 < q.m by omega)
    have hN := fieldsN_le q.op
    have HSUM0 := Lib.hid (widths_sum hop)
    have hnz : needsZ q.op = fieldsN q.op := if_pos hop
    have hn := fun w => rneeds_ok q.op w
    rw [hnz] at hn
    obtain ⟨N, hNe⟩ : ∃ N, N = fieldsN q.op := ⟨_, rfl⟩
    rw [← hNe] at hn hN HSUM0
    have HNe := Lib.hid hNe
    have HNN := Lib.hid hn
    have HOP := Lib.hid hop
    clear hNe hn hnz hop
    go_wp2_with fail
    refine (HNN.out _).mono ?_
    rintro e w4 ⟨rfl, hW⟩
    have HR := Lib.hid (HR.out.below hW)
    have e0 : w4.cell? ⟨w.heap.size + 1 + 1, 0, none⟩ = some (.int .i64 q.op) := HR.out.b2.is 0 rfl
    clear hW
    by_cases hsh : r.length < N
    · have HD := Lib.hid (show rdec2 q r = (zeroR 0, 50) by unfold rdec2; rw [if_neg (by rw [HOP.out]; decide), if_neg (by have := HM.out; omega), if_pos (by rw [← HNe.out]; omega)])
      have hsh' : ((r.length : Nat) : Int) < (N : Int) := by omega
      go_wp2_with (first | (refine wpList_load_row rfl 60 (.tmp 4) rfl (w.heap.size + 1) rfl 60 zeroC (0, 0) _ HR.out.b1 Tryz.underlying60 rfl zero_size ?_) | (refine wpList_store_row rfl 60 (.tmp 2) (.tmp 55) rfl w.heap.size zeroC rfl rfl 60 zeroC HR.out.b0 zero_size rfl zero_one ?_))
      refine bodyPost_ret (results_cell_tmp rfl _ _ w.heap.size 60 zeroC (0, 0) _ rfl (HR.out.b0.row _) Tryz.underlying60 rfl (by kernel_rfl)) rfl ?_
      exact ⟨by rw [hd.out, HD.out]; rfl, below_setRow HR.out.bel (Nat.le_refl _) _⟩
    have hsh' : ¬ ((r.length : Nat) : Int) < (N : Int) := by omega
    have HSH := Lib.hid hsh
    by_cases h3 : q.op = 3
    · by_cases hlo : 512 < r.length
      · have HLO := Lib.hid hlo
        have HD := Lib.hid (show rdec2 q r = (zeroR 0, 2) by unfold rdec2; rw [if_neg (by rw [HOP.out]; decide), if_neg (by have := HM.out; omega), if_neg (by rw [← HNe.out]; have := HSH.out; omega), if_pos (.inr HLO.out)])
        have hlo' : (512 : Int) < ((r.length : Nat) : Int) := by omega
        go_wp2_with (first | (refine wpList_load_row rfl 60 (.tmp 4) rfl (w.heap.size + 1) rfl 60 zeroC (0, 0) _ HR.out.b1 Tryz.underlying60 rfl zero_size ?_) | (refine wpList_store_row rfl 60 (.tmp 2) (.tmp 72) rfl w.heap.size zeroC rfl rfl 60 zeroC HR.out.b0 zero_size rfl zero_one ?_))
        refine bodyPost_ret (results_cell_tmp rfl _ _ w.heap.size 60 zeroC (0, 0) _ rfl (HR.out.b0.row _) Tryz.underlying60 rfl (by kernel_rfl)) rfl ?_
        exact ⟨by rw [hd.out, HD.out]; rfl, below_setRow HR.out.bel (Nat.le_refl _) _⟩
      have hlo' : ¬ (512 : Int) < ((r.length : Nat) : Int) := by omega
      have HW8 := Lib.hid (@widths_le q.op)
      have HSUM := Lib.hid (show sumL (widths q.op) ≤ r.length by rw [HSUM0.out]; have := HSH.out; omega)
      have HW100 := Lib.hid (show (widths q.op).length ≤ 100 by have h1 := (sumL_le (fun x hx => (@widths_le q.op) x hx)).2; rw [HSUM0.out] at h1; omega)
      have HV := Lib.hid (cut_small (widths q.op) r)
      have hconv := Sl.str (HC.out.below HR.out.bel)
      go_wp2_with fail
      have H3 := Lib.hid h3
      clear h3
      have HRd := Lib.hid (show RS w w4.drew q from ⟨HR.out.b0, HR.out.b1, HR.out.b2, below_drew HR.out.bel⟩)
      have hl4 := loadReq_row HRd.out.b2
      have f0 : w4.drew.cell? ⟨w.heap.size + 1 + 1, 0, none⟩ = some (.int .i64 q.op) := HRd.out.b2.is 0 rfl
      go_region_with (first
        | ((with_reducible refine (rfields_ok q.op HOP.out _).mono ?_); rintro e w6 ⟨v6, rfl, hs6, hb6⟩; have hr6 := Lib.hid (HRd.out.below hb6); have hl6 := loadReq_row hr6.out.b2; have HS6 := Lib.hid hs6; have hc6 := Lib.hid ((HC.out.below hr6.out.bel).more hr6.out.bel.size); clear hs6 hb6)
        | ((with_reducible refine (numbers_ok r (widths q.op) _ _ _ hc6.out HS6.out HW8.out HSUM.out HW100.out).mono ?_); rintro e w7 ⟨v7, rfl, hs7, hb7⟩; have hr7 := Lib.hid (hr6.out.below hb7); have hl7 := loadReq_row hr7.out.b2; have HS7 := Lib.hid hs7; clear hs7 hb7)
        | ((with_reducible refine (with_ok q HOP.out (cutN r (widths q.op)) r _ _ HS7.out (cutN_len _ _) HV.out).mono ?_); rintro e w8 ⟨rfl, hb8⟩; have hr8 := Lib.hid (hr7.out.below hb8); clear hb8)
        | (refine StopStore.row (.tmp 5) (.tmp 85) rfl (w.heap.size + 1 + 1) (rqC (withR q (cutN r (widths q.op)) r)) (rqC q) rfl rfl hr8.out.b2 (rq_size _) rfl (rq_one _) ?_))
      all_goals
        have HR9 := Lib.hid (show RS w (w8.setRow (w.heap.size + 1 + 1) (rqC (withR q (cutN r (widths q.op)) r))) (withR q (cutN r (widths q.op)) r) from ⟨hr8.out.b0.farRow (by omega) _, hr8.out.b1.farRow (by omega) _, hr8.out.b2.row _, below_setRow hr8.out.bel (by omega) _⟩)
        have HT := Lib.hid (show (if q.op = 3 then r else []) = r from if_pos H3.out)
        obtain ⟨w9, hw9⟩ : ∃ w9, w8.setRow (w.heap.size + 1 + 1) (rqC (withR q (cutN r (widths q.op)) r)) = w9 := ⟨_, rfl⟩
        rw [hw9] at HR9 ⊢
        have HD0 := Lib.hid (show rdec2 q r = (if rangeB (withR q (cutN r (widths q.op)) r) = false then (zeroR 0, 33) else ((withR q (cutN r (widths q.op)) r), 0)) by unfold rdec2; rw [HT.out, if_neg (by rw [HOP.out]; decide), if_neg (by have := HM.out; omega), if_neg (by rw [← HNe.out]; have := HSH.out; omega), if_neg (by have h := H3.out; omega)])
        clear hw9 hr8 hr7 hr6 HS7 HS6 hc6 hl6 hl7 hl4 f0
        generalize (withR q (cutN r (widths q.op)) r) = q' at *
        go_wp2_with (refine wpList_load_row rfl 60 (.tmp 5) rfl (w.heap.size + 1 + 1) rfl 60 (rqC q') (0, 0) _ HR9.out.b2 Tryz.underlying60 rfl (rq_size _) ?_)
        refine (rrange_ok q' _).mono ?_
        rintro e w10 ⟨rfl, hb⟩
        have HR := Lib.hid (HR9.out.below hb)
        clear hb
        cases hrb : rangeB q'
        · rw [hrb] at HD0
          have HD := Lib.hid (show rdec2 q r = (zeroR 0, 33) from HD0.out)
          clear hrb
          go_wp2_with (first | (refine wpList_load_row rfl 60 (.tmp 4) rfl (w.heap.size + 1) rfl 60 zeroC (0, 0) _ HR.out.b1 Tryz.underlying60 rfl zero_size ?_) | (refine wpList_store_row rfl 60 (.tmp 2) (.tmp 89) rfl w.heap.size zeroC rfl rfl 60 zeroC HR.out.b0 zero_size rfl zero_one ?_))
          refine bodyPost_ret (results_cell_tmp rfl _ _ w.heap.size 60 zeroC (0, 0) _ rfl (HR.out.b0.row _) Tryz.underlying60 rfl (by kernel_rfl)) rfl ?_
          exact ⟨by rw [hd.out, HD.out]; rfl, below_setRow HR.out.bel (Nat.le_refl _) _⟩
        · rw [hrb] at HD0
          have HD := Lib.hid (show rdec2 q r = (q', 0) from HD0.out)
          clear hrb
          go_wp2_with (first | (refine wpList_load_row rfl 60 (.tmp 5) rfl (w.heap.size + 1 + 1) rfl 60 (rqC q') (0, 0) _ HR.out.b2 Tryz.underlying60 rfl (rq_size _) ?_) | (refine wpList_store_row rfl 60 (.tmp 2) (.tmp 90) rfl w.heap.size (rqC q') rfl rfl 60 zeroC HR.out.b0 (rq_size _) rfl (rq_one _) ?_))
          refine bodyPost_ret (results_cell_tmp rfl _ _ w.heap.size 60 (rqC q') (0, 0) _ rfl (HR.out.b0.row _) Tryz.underlying60 rfl (rq_size _)) rfl ?_
          exact ⟨by rw [hd.out, HD.out]; rfl, below_setRow HR.out.bel (Nat.le_refl _) _⟩
    · have H3 := Lib.hid h3
      go_wp2_with fail
      refine (HNN.out _).mono ?_
      rintro e w5 ⟨rfl, hW⟩
      have HR := Lib.hid (HR.out.below hW)
      have e0 : w5.cell? ⟨w.heap.size + 1 + 1, 0, none⟩ = some (.int .i64 q.op) := HR.out.b2.is 0 rfl
      clear hW
      by_cases hlo : N < r.length
      · have HLO := Lib.hid hlo
        have HD := Lib.hid (show rdec2 q r = (zeroR 0, 2) by unfold rdec2; rw [if_neg (by rw [HOP.out]; decide), if_neg (by have := HM.out; omega), if_neg (by rw [← HNe.out]; have := HSH.out; omega), if_pos (.inl ⟨H3.out, by rw [← HNe.out]; exact HLO.out⟩)])
        have hlo' : (N : Int) < ((r.length : Nat) : Int) := by omega
        go_wp2_with (first | (refine wpList_load_row rfl 60 (.tmp 4) rfl (w.heap.size + 1) rfl 60 zeroC (0, 0) _ HR.out.b1 Tryz.underlying60 rfl zero_size ?_) | (refine wpList_store_row rfl 60 (.tmp 2) (.tmp 72) rfl w.heap.size zeroC rfl rfl 60 zeroC HR.out.b0 zero_size rfl zero_one ?_))
        refine bodyPost_ret (results_cell_tmp rfl _ _ w.heap.size 60 zeroC (0, 0) _ rfl (HR.out.b0.row _) Tryz.underlying60 rfl (by kernel_rfl)) rfl ?_
        exact ⟨by rw [hd.out, HD.out]; rfl, below_setRow HR.out.bel (Nat.le_refl _) _⟩
      have hlo' : ¬ (N : Int) < ((r.length : Nat) : Int) := by omega
      have hlo2 : ¬ (512 : Int) < ((r.length : Nat) : Int) := by omega
      have HW8 := Lib.hid (@widths_le q.op)
      have HSUM := Lib.hid (show sumL (widths q.op) ≤ r.length by rw [HSUM0.out]; have := HSH.out; omega)
      have HW100 := Lib.hid (show (widths q.op).length ≤ 100 by have h1 := (sumL_le (fun x hx => (@widths_le q.op) x hx)).2; rw [HSUM0.out] at h1; omega)
      have HV := Lib.hid (cut_small (widths q.op) r)
      have HRd := Lib.hid (show RS w w5.drew q from ⟨HR.out.b0, HR.out.b1, HR.out.b2, below_drew HR.out.bel⟩)
      have hl4 := loadReq_row HRd.out.b2
      have f0 : w5.drew.cell? ⟨w.heap.size + 1 + 1, 0, none⟩ = some (.int .i64 q.op) := HRd.out.b2.is 0 rfl
      go_wp2_with fail
      go_region_with (first
        | ((with_reducible refine (rfields_ok q.op HOP.out _).mono ?_); rintro e w6 ⟨v6, rfl, hs6, hb6⟩; have hr6 := Lib.hid (HRd.out.below hb6); have hl6 := loadReq_row hr6.out.b2; have HS6 := Lib.hid hs6; have hc6 := Lib.hid ((HC.out.below hr6.out.bel).more hr6.out.bel.size); clear hs6 hb6)
        | ((with_reducible refine (numbers_ok r (widths q.op) _ _ _ hc6.out HS6.out HW8.out HSUM.out HW100.out).mono ?_); rintro e w7 ⟨v7, rfl, hs7, hb7⟩; have hr7 := Lib.hid (hr6.out.below hb7); have hl7 := loadReq_row hr7.out.b2; have HS7 := Lib.hid hs7; clear hs7 hb7)
        | ((with_reducible refine (with_ok q HOP.out (cutN r (widths q.op)) [] _ _ HS7.out (cutN_len _ _) HV.out).mono ?_); rintro e w8 ⟨rfl, hb8⟩; have hr8 := Lib.hid (hr7.out.below hb8); clear hb8)
        | (refine StopStore.row (.tmp 5) (.tmp 85) rfl (w.heap.size + 1 + 1) (rqC (withR q (cutN r (widths q.op)) [])) (rqC q) rfl rfl hr8.out.b2 (rq_size _) rfl (rq_one _) ?_))
      all_goals
        have HR9 := Lib.hid (show RS w (w8.setRow (w.heap.size + 1 + 1) (rqC (withR q (cutN r (widths q.op)) []))) (withR q (cutN r (widths q.op)) []) from ⟨hr8.out.b0.farRow (by omega) _, hr8.out.b1.farRow (by omega) _, hr8.out.b2.row _, below_setRow hr8.out.bel (by omega) _⟩)
        have HT := Lib.hid (show (if q.op = 3 then r else []) = [] from if_neg H3.out)
        obtain ⟨w9, hw9⟩ : ∃ w9, w8.setRow (w.heap.size + 1 + 1) (rqC (withR q (cutN r (widths q.op)) [])) = w9 := ⟨_, rfl⟩
        rw [hw9] at HR9 ⊢
        have HD0 := Lib.hid (show rdec2 q r = (if rangeB (withR q (cutN r (widths q.op)) []) = false then (zeroR 0, 33) else ((withR q (cutN r (widths q.op)) []), 0)) by unfold rdec2; rw [HT.out, if_neg (by rw [HOP.out]; decide), if_neg (by have := HM.out; omega), if_neg (by rw [← HNe.out]; have := HSH.out; omega), if_neg (by rw [← HNe.out]; omega)])
        clear hw9 hr8 hr7 hr6 HS7 HS6 hc6 hl6 hl7 hl4 f0
        generalize (withR q (cutN r (widths q.op)) []) = q' at *
        go_wp2_with (refine wpList_load_row rfl 60 (.tmp 5) rfl (w.heap.size + 1 + 1) rfl 60 (rqC q') (0, 0) _ HR9.out.b2 Tryz.underlying60 rfl (rq_size _) ?_)
        refine (rrange_ok q' _).mono ?_
        rintro e w10 ⟨rfl, hb⟩
        have HR := Lib.hid (HR9.out.below hb)
        clear hb
        cases hrb : rangeB q'
        · rw [hrb] at HD0
          have HD := Lib.hid (show rdec2 q r = (zeroR 0, 33) from HD0.out)
          clear hrb
          go_wp2_with (first | (refine wpList_load_row rfl 60 (.tmp 4) rfl (w.heap.size + 1) rfl 60 zeroC (0, 0) _ HR.out.b1 Tryz.underlying60 rfl zero_size ?_) | (refine wpList_store_row rfl 60 (.tmp 2) (.tmp 89) rfl w.heap.size zeroC rfl rfl 60 zeroC HR.out.b0 zero_size rfl zero_one ?_))
          refine bodyPost_ret (results_cell_tmp rfl _ _ w.heap.size 60 zeroC (0, 0) _ rfl (HR.out.b0.row _) Tryz.underlying60 rfl (by kernel_rfl)) rfl ?_
          exact ⟨by rw [hd.out, HD.out]; rfl, below_setRow HR.out.bel (Nat.le_refl _) _⟩
        · rw [hrb] at HD0
          have HD := Lib.hid (show rdec2 q r = (q', 0) from HD0.out)
          clear hrb
          go_wp2_with (first | (refine wpList_load_row rfl 60 (.tmp 5) rfl (w.heap.size + 1 + 1) rfl 60 (rqC q') (0, 0) _ HR.out.b2 Tryz.underlying60 rfl (rq_size _) ?_) | (refine wpList_store_row rfl 60 (.tmp 2) (.tmp 90) rfl w.heap.size (rqC q') rfl rfl 60 zeroC HR.out.b0 (rq_size _) rfl (rq_one _) ?_))
          refine bodyPost_ret (results_cell_tmp rfl _ _ w.heap.size 60 (rqC q') (0, 0) _ rfl (HR.out.b0.row _) Tryz.underlying60 rfl (rq_size _)) rfl ?_
          exact ⟨by rw [hd.out, HD.out]; rfl, below_setRow HR.out.bel (Nat.le_refl _) _⟩
end Go.Proofs.YtldjgpnbkbmgoaaGreatDoor
