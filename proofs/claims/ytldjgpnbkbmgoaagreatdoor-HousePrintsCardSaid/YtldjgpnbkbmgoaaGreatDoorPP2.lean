/-
  The reference's Values, an operation each. Conditions: as each states. PRINTED BY genvals.py. WireBack holds: for any request and any bytes: the law returns true, and its arguments read as they did. Conditions: none. The bytes that the reference writes, as plain lists; what is decoded is written so as it stood. Conditions: none. A job's items: how they lie, in the program's type and in the referen
-/
import Derived.Test.YtldjgpnbkbmgoaaGreatDoorPut
import Derived.Test.YtldjgpnbkbmgoaaGreatDoorPP1
import Derived.Deep.DeepCutAuto
import Derived.Deep.MidRow
import Derived.Deep.DeepMust
set_option linter.unusedSimpArgs false
set_option linter.unusedVariables false
set_option maxRecDepth 100000
set_option maxHeartbeats 8000000
namespace Go.Proofs.YtldjgpnbkbmgoaaGreatDoor
open Go.RowKit Go.Lib
attribute [local go_sem ↓] load_req stop_req
def izC (x : Int) : List Value := [.int .i64 x]
theorem izC_len (x : Int) : (izC x).length = 1 := rfl
theorem Lay.iz {w : World} {b off : Nat} {x : Int} (h : Lay w b off (izC x)) : w.cell? ⟨b, off, none⟩ = some (.int .i64 x) := h 0 _ rfl
def valsR (q : Req) : List Int :=
  if q.op = 1 then [q.whom, q.role, q.tier, q.quota] else
  if q.op = 2 then [q.whom] else
  if q.op = 4 then [q.whom, q.rights, q.til] else
  if q.op = 5 then [q.rights, q.zoom, q.x0, q.y0, q.x1, q.y1, q.til] else
  if q.op = 7 then [q.pk] else
  if q.op = 8 then [q.ax, q.ay, q.label] else
  if q.op = 13 then [q.x0, q.y0, q.x1, q.y1] else
  if q.op = 14 then [q.ax, q.ay] else
  if q.op = 15 then [q.x0, q.y0, q.x1, q.y1] else
  if q.op = 16 then [q.ax, q.ay] else
  if q.op = 17 then [q.frm] else
  if q.op = 19 then [q.whom, q.quota] else
  []
structure SlN {α : Type} (enc : α → List Value) (w : World) (B : Nat) (v : Value) (l : List α) : Prop where
  ex : ∃ g, v = .slice (some ⟨g, 0, none⟩) l.length l.length ∧ B ≤ g ∧ g < w.heap.size ∧ Lay w g 0 (l.flatMap enc)
def VPost (w : World) (l : List Int) (e : Ending) (w' : World) : Prop := ∃ v, e = .returned v ∧ SlN izC w' w.heap.size v l ∧ Below w.heap.size w w'
theorem vals_pre (q : Req) (w : World) : ∃ w1 w2 : World, w.alloc (.cells (rqC q) 60) = w1 ∧ w1.alloc (.cells #[.int .i64 q.x0, .int .i64 q.y0, .int .i64 q.x1, .int .i64 q.y1] 54) = w2 ∧ w1.heap.size = w.heap.size + 1 ∧ w2.heap.size = w.heap.size + 1 + 1 ∧
    w1.cell? ⟨w.heap.size, 12, none⟩ = some (.int .i64 q.x0) ∧ w1.cell? ⟨w.heap.size, 13, none⟩ = some (.int .i64 q.y0) ∧ w1.cell? ⟨w.heap.size, 14, none⟩ = some (.int .i64 q.x1) ∧ w1.cell? ⟨w.heap.size, 15, none⟩ = some (.int .i64 q.y1) ∧
    Blk w2 w.heap.size 60 (rqC q) ∧ Blk w2 (w.heap.size + 1) 54 #[.int .i64 q.x0, .int .i64 q.y0, .int .i64 q.x1, .int .i64 q.y1] ∧ Below w.heap.size w w2 := by
  have hb1 := Blk.new w 60 (rqC q)
  have hW1 := (Below.refl w.heap.size w).alloc (Nat.le_refl _) (.cells (rqC q) 60)
  have hz1 : (w.alloc (.cells (rqC q) 60)).heap.size = w.heap.size + 1 := by simp
  obtain ⟨w1, hst1⟩ : ∃ w1, w.alloc (.cells (rqC q) 60) = w1 := ⟨_, rfl⟩
  rw [hst1] at hb1 hW1 hz1
  have hbx := Blk.new w1 54 #[.int .i64 q.x0, .int .i64 q.y0, .int .i64 q.x1, .int .i64 q.y1]
  rw [hz1] at hbx
  have hb2 := hb1.alloc (.cells #[.int .i64 q.x0, .int .i64 q.y0, .int .i64 q.x1, .int .i64 q.y1] 54)
  have hW2 := hW1.alloc (by omega) (.cells #[.int .i64 q.x0, .int .i64 q.y0, .int .i64 q.x1, .int .i64 q.y1] 54)
  have x0 : w1.cell? ⟨w.heap.size, 12, none⟩ = some (.int .i64 q.x0) := hb1.is 12 rfl
  have x1 : w1.cell? ⟨w.heap.size, 13, none⟩ = some (.int .i64 q.y0) := hb1.is 13 rfl
  have x2 : w1.cell? ⟨w.heap.size, 14, none⟩ = some (.int .i64 q.x1) := hb1.is 14 rfl
  have x3 : w1.cell? ⟨w.heap.size, 15, none⟩ = some (.int .i64 q.y1) := hb1.is 15 rfl
  have hz2 : (w1.alloc (.cells #[.int .i64 q.x0, .int .i64 q.y0, .int .i64 q.x1, .int .i64 q.y1] 54)).heap.size = w.heap.size + 1 + 1 := by simp [hz1]
  obtain ⟨w2, hst2⟩ : ∃ w2, w1.alloc (.cells #[.int .i64 q.x0, .int .i64 q.y0, .int .i64 q.x1, .int .i64 q.y1] 54) = w2 := ⟨_, rfl⟩
  rw [hst2] at hb2 hbx hW2 hz2
  exact ⟨w1, w2, hst1, hst2, hz1, hz2, x0, x1, x2, x3, hb2, hbx, hW2⟩
theorem vals_1 (q : Req) (hop : q.op = 1) (w : World) : Calls Tryz.prog 75 #[.agg (rqC q)] w (VPost w [q.whom, q.role, q.tier, q.quota]) := by
  obtain ⟨w1, w2, hst1, hst2, hz1, hz2, x0, x1, x2, x3, hb2, hbx, hW2⟩ := vals_pre q w
  have c0 : w2.cell? ⟨w.heap.size, 0, none⟩ = some (.int .i64 1) := by rw [← hop]; exact hb2.is 0 rfl
  have c5 : w2.cell? ⟨w.heap.size, 5, none⟩ = some (.int .i64 q.whom) := hb2.is 5 rfl
  have c6 : w2.cell? ⟨w.heap.size, 6, none⟩ = some (.int .i64 q.role) := hb2.is 6 rfl
  have c7 : w2.cell? ⟨w.heap.size, 7, none⟩ = some (.int .i64 q.tier) := hb2.is 7 rfl
  have c8 : w2.cell? ⟨w.heap.size, 8, none⟩ = some (.int .i64 q.quota) := hb2.is 8 rfl
  have HW2 := Lib.hid hW2
  have HN := Lib.hid (Blk.new w2 3 #[.int .i64 q.whom, .int .i64 q.role, .int .i64 q.tier, .int .i64 q.quota])
  rw [hz2] at HN
  clear hb2 hW2 hbx hop
  go_enter Tryz.func75, Tryz.ntmps75
  go_wp2_with fail
  go_ret
  exact ⟨_, rfl, ⟨_, rfl, by omega, HN.out.lt, by have := HN.out.lay; exact this⟩, HW2.out.alloc HW2.out.size _⟩
theorem vals_2 (q : Req) (hop : q.op = 2) (w : World) : Calls Tryz.prog 75 #[.agg (rqC q)] w (VPost w [q.whom]) := by
  obtain ⟨w1, w2, hst1, hst2, hz1, hz2, x0, x1, x2, x3, hb2, hbx, hW2⟩ := vals_pre q w
  have c0 : w2.cell? ⟨w.heap.size, 0, none⟩ = some (.int .i64 2) := by rw [← hop]; exact hb2.is 0 rfl
  have c5 : w2.cell? ⟨w.heap.size, 5, none⟩ = some (.int .i64 q.whom) := hb2.is 5 rfl
  have HW2 := Lib.hid hW2
  have HN := Lib.hid (Blk.new w2 3 #[.int .i64 q.whom])
  rw [hz2] at HN
  clear hb2 hW2 hbx hop
  go_enter Tryz.func75, Tryz.ntmps75
  go_wp2_with fail
  go_ret
  exact ⟨_, rfl, ⟨_, rfl, by omega, HN.out.lt, by have := HN.out.lay; exact this⟩, HW2.out.alloc HW2.out.size _⟩
theorem vals_3 (q : Req) (hop : q.op = 3) (w : World) : Calls Tryz.prog 75 #[.agg (rqC q)] w (VPost w []) := by
  obtain ⟨w1, w2, hst1, hst2, hz1, hz2, x0, x1, x2, x3, hb2, hbx, hW2⟩ := vals_pre q w
  have c0 : w2.cell? ⟨w.heap.size, 0, none⟩ = some (.int .i64 3) := by rw [← hop]; exact hb2.is 0 rfl
  have HW2 := Lib.hid hW2
  have HN := Lib.hid (Blk.new w2 3 #[])
  rw [hz2] at HN
  clear hb2 hW2 hbx hop
  go_enter Tryz.func75, Tryz.ntmps75
  go_wp2_with fail
  go_ret
  exact ⟨_, rfl, ⟨_, rfl, by omega, HN.out.lt, by have := HN.out.lay; exact this⟩, HW2.out.alloc HW2.out.size _⟩
theorem vals_4 (q : Req) (hop : q.op = 4) (w : World) : Calls Tryz.prog 75 #[.agg (rqC q)] w (VPost w [q.whom, q.rights, q.til]) := by
  obtain ⟨w1, w2, hst1, hst2, hz1, hz2, x0, x1, x2, x3, hb2, hbx, hW2⟩ := vals_pre q w
  have c0 : w2.cell? ⟨w.heap.size, 0, none⟩ = some (.int .i64 4) := by rw [← hop]; exact hb2.is 0 rfl
  have c5 : w2.cell? ⟨w.heap.size, 5, none⟩ = some (.int .i64 q.whom) := hb2.is 5 rfl
  have c10 : w2.cell? ⟨w.heap.size, 10, none⟩ = some (.int .i64 q.rights) := hb2.is 10 rfl
  have c16 : w2.cell? ⟨w.heap.size, 16, none⟩ = some (.int .i64 q.til) := hb2.is 16 rfl
  have HW2 := Lib.hid hW2
  have HN := Lib.hid (Blk.new w2 3 #[.int .i64 q.whom, .int .i64 q.rights, .int .i64 q.til])
  rw [hz2] at HN
  clear hb2 hW2 hbx hop
  go_enter Tryz.func75, Tryz.ntmps75
  go_wp2_with fail
  go_ret
  exact ⟨_, rfl, ⟨_, rfl, by omega, HN.out.lt, by have := HN.out.lay; exact this⟩, HW2.out.alloc HW2.out.size _⟩
theorem vals_5 (q : Req) (hop : q.op = 5) (w : World) : Calls Tryz.prog 75 #[.agg (rqC q)] w (VPost w [q.rights, q.zoom, q.x0, q.y0, q.x1, q.y1, q.til]) := by
  obtain ⟨w1, w2, hst1, hst2, hz1, hz2, x0, x1, x2, x3, hb2, hbx, hW2⟩ := vals_pre q w
  have c0 : w2.cell? ⟨w.heap.size, 0, none⟩ = some (.int .i64 5) := by rw [← hop]; exact hb2.is 0 rfl
  have c10 : w2.cell? ⟨w.heap.size, 10, none⟩ = some (.int .i64 q.rights) := hb2.is 10 rfl
  have c11 : w2.cell? ⟨w.heap.size, 11, none⟩ = some (.int .i64 q.zoom) := hb2.is 11 rfl
  have b0 : w2.cell? ⟨w.heap.size + 1, 0, none⟩ = some (.int .i64 q.x0) := hbx.is 0 rfl
  have b1 : w2.cell? ⟨w.heap.size + 1, 1, none⟩ = some (.int .i64 q.y0) := hbx.is 1 rfl
  have b2 : w2.cell? ⟨w.heap.size + 1, 2, none⟩ = some (.int .i64 q.x1) := hbx.is 2 rfl
  have b3 : w2.cell? ⟨w.heap.size + 1, 3, none⟩ = some (.int .i64 q.y1) := hbx.is 3 rfl
  have c16 : w2.cell? ⟨w.heap.size, 16, none⟩ = some (.int .i64 q.til) := hb2.is 16 rfl
  have HW2 := Lib.hid hW2
  have HN := Lib.hid (Blk.new w2 3 #[.int .i64 q.rights, .int .i64 q.zoom, .int .i64 q.x0, .int .i64 q.y0, .int .i64 q.x1, .int .i64 q.y1, .int .i64 q.til])
  rw [hz2] at HN
  clear hb2 hW2 hbx hop
  go_enter Tryz.func75, Tryz.ntmps75
  go_wp2_with fail
  go_ret
  exact ⟨_, rfl, ⟨_, rfl, by omega, HN.out.lt, by have := HN.out.lay; exact this⟩, HW2.out.alloc HW2.out.size _⟩
theorem vals_6 (q : Req) (hop : q.op = 6) (w : World) : Calls Tryz.prog 75 #[.agg (rqC q)] w (VPost w []) := by
  obtain ⟨w1, w2, hst1, hst2, hz1, hz2, x0, x1, x2, x3, hb2, hbx, hW2⟩ := vals_pre q w
  have c0 : w2.cell? ⟨w.heap.size, 0, none⟩ = some (.int .i64 6) := by rw [← hop]; exact hb2.is 0 rfl
  have HW2 := Lib.hid hW2
  have HN := Lib.hid (Blk.new w2 3 #[])
  rw [hz2] at HN
  clear hb2 hW2 hbx hop
  go_enter Tryz.func75, Tryz.ntmps75
  go_wp2_with fail
  go_ret
  exact ⟨_, rfl, ⟨_, rfl, by omega, HN.out.lt, by have := HN.out.lay; exact this⟩, HW2.out.alloc HW2.out.size _⟩
theorem vals_7 (q : Req) (hop : q.op = 7) (w : World) : Calls Tryz.prog 75 #[.agg (rqC q)] w (VPost w [q.pk]) := by
  obtain ⟨w1, w2, hst1, hst2, hz1, hz2, x0, x1, x2, x3, hb2, hbx, hW2⟩ := vals_pre q w
  have c0 : w2.cell? ⟨w.heap.size, 0, none⟩ = some (.int .i64 7) := by rw [← hop]; exact hb2.is 0 rfl
  have c18 : w2.cell? ⟨w.heap.size, 18, none⟩ = some (.int .i64 q.pk) := hb2.is 18 rfl
  have HW2 := Lib.hid hW2
  have HN := Lib.hid (Blk.new w2 3 #[.int .i64 q.pk])
  rw [hz2] at HN
  clear hb2 hW2 hbx hop
  go_enter Tryz.func75, Tryz.ntmps75
  go_wp2_with fail
  go_ret
  exact ⟨_, rfl, ⟨_, rfl, by omega, HN.out.lt, by have := HN.out.lay; exact this⟩, HW2.out.alloc HW2.out.size _⟩
theorem vals_8 (q : Req) (hop : q.op = 8) (w : World) : Calls Tryz.prog 75 #[.agg (rqC q)] w (VPost w [q.ax, q.ay, q.label]) := by
  obtain ⟨w1, w2, hst1, hst2, hz1, hz2, x0, x1, x2, x3, hb2, hbx, hW2⟩ := vals_pre q w
  have c0 : w2.cell? ⟨w.heap.size, 0, none⟩ = some (.int .i64 8) := by rw [← hop]; exact hb2.is 0 rfl
  have c20 : w2.cell? ⟨w.heap.size, 20, none⟩ = some (.int .i64 q.ax) := hb2.is 20 rfl
  have c21 : w2.cell? ⟨w.heap.size, 21, none⟩ = some (.int .i64 q.ay) := hb2.is 21 rfl
  have c22 : w2.cell? ⟨w.heap.size, 22, none⟩ = some (.int .i64 q.label) := hb2.is 22 rfl
  have HW2 := Lib.hid hW2
  have HN := Lib.hid (Blk.new w2 3 #[.int .i64 q.ax, .int .i64 q.ay, .int .i64 q.label])
  rw [hz2] at HN
  clear hb2 hW2 hbx hop
  go_enter Tryz.func75, Tryz.ntmps75
  go_wp2_with fail
  go_ret
  exact ⟨_, rfl, ⟨_, rfl, by omega, HN.out.lt, by have := HN.out.lay; exact this⟩, HW2.out.alloc HW2.out.size _⟩
theorem vals_9 (q : Req) (hop : q.op = 9) (w : World) : Calls Tryz.prog 75 #[.agg (rqC q)] w (VPost w []) := by
  obtain ⟨w1, w2, hst1, hst2, hz1, hz2, x0, x1, x2, x3, hb2, hbx, hW2⟩ := vals_pre q w
  have c0 : w2.cell? ⟨w.heap.size, 0, none⟩ = some (.int .i64 9) := by rw [← hop]; exact hb2.is 0 rfl
  have HW2 := Lib.hid hW2
  have HN := Lib.hid (Blk.new w2 3 #[])
  rw [hz2] at HN
  clear hb2 hW2 hbx hop
  go_enter Tryz.func75, Tryz.ntmps75
  go_wp2_with fail
  go_ret
  exact ⟨_, rfl, ⟨_, rfl, by omega, HN.out.lt, by have := HN.out.lay; exact this⟩, HW2.out.alloc HW2.out.size _⟩
theorem vals_10 (q : Req) (hop : q.op = 10) (w : World) : Calls Tryz.prog 75 #[.agg (rqC q)] w (VPost w []) := by
  obtain ⟨w1, w2, hst1, hst2, hz1, hz2, x0, x1, x2, x3, hb2, hbx, hW2⟩ := vals_pre q w
  have c0 : w2.cell? ⟨w.heap.size, 0, none⟩ = some (.int .i64 10) := by rw [← hop]; exact hb2.is 0 rfl
  have HW2 := Lib.hid hW2
  have HN := Lib.hid (Blk.new w2 3 #[])
  rw [hz2] at HN
  clear hb2 hW2 hbx hop
  go_enter Tryz.func75, Tryz.ntmps75
  go_wp2_with fail
  go_ret
  exact ⟨_, rfl, ⟨_, rfl, by omega, HN.out.lt, by have := HN.out.lay; exact this⟩, HW2.out.alloc HW2.out.size _⟩
theorem vals_11 (q : Req) (hop : q.op = 11) (w : World) : Calls Tryz.prog 75 #[.agg (rqC q)] w (VPost w []) := by
  obtain ⟨w1, w2, hst1, hst2, hz1, hz2, x0, x1, x2, x3, hb2, hbx, hW2⟩ := vals_pre q w
  have c0 : w2.cell? ⟨w.heap.size, 0, none⟩ = some (.int .i64 11) := by rw [← hop]; exact hb2.is 0 rfl
  have HW2 := Lib.hid hW2
  have HN := Lib.hid (Blk.new w2 3 #[])
  rw [hz2] at HN
  clear hb2 hW2 hbx hop
  go_enter Tryz.func75, Tryz.ntmps75
  go_wp2_with fail
  go_ret
  exact ⟨_, rfl, ⟨_, rfl, by omega, HN.out.lt, by have := HN.out.lay; exact this⟩, HW2.out.alloc HW2.out.size _⟩
theorem vals_12 (q : Req) (hop : q.op = 12) (w : World) : Calls Tryz.prog 75 #[.agg (rqC q)] w (VPost w []) := by
  obtain ⟨w1, w2, hst1, hst2, hz1, hz2, x0, x1, x2, x3, hb2, hbx, hW2⟩ := vals_pre q w
  have c0 : w2.cell? ⟨w.heap.size, 0, none⟩ = some (.int .i64 12) := by rw [← hop]; exact hb2.is 0 rfl
  have HW2 := Lib.hid hW2
  have HN := Lib.hid (Blk.new w2 3 #[])
  rw [hz2] at HN
  clear hb2 hW2 hbx hop
  go_enter Tryz.func75, Tryz.ntmps75
  go_wp2_with fail
  go_ret
  exact ⟨_, rfl, ⟨_, rfl, by omega, HN.out.lt, by have := HN.out.lay; exact this⟩, HW2.out.alloc HW2.out.size _⟩
theorem vals_13 (q : Req) (hop : q.op = 13) (w : World) : Calls Tryz.prog 75 #[.agg (rqC q)] w (VPost w [q.x0, q.y0, q.x1, q.y1]) := by
  obtain ⟨w1, w2, hst1, hst2, hz1, hz2, x0, x1, x2, x3, hb2, hbx, hW2⟩ := vals_pre q w
  have c0 : w2.cell? ⟨w.heap.size, 0, none⟩ = some (.int .i64 13) := by rw [← hop]; exact hb2.is 0 rfl
  have b0 : w2.cell? ⟨w.heap.size + 1, 0, none⟩ = some (.int .i64 q.x0) := hbx.is 0 rfl
  have b1 : w2.cell? ⟨w.heap.size + 1, 1, none⟩ = some (.int .i64 q.y0) := hbx.is 1 rfl
  have b2 : w2.cell? ⟨w.heap.size + 1, 2, none⟩ = some (.int .i64 q.x1) := hbx.is 2 rfl
  have b3 : w2.cell? ⟨w.heap.size + 1, 3, none⟩ = some (.int .i64 q.y1) := hbx.is 3 rfl
  have HW2 := Lib.hid hW2
  have HN := Lib.hid (Blk.new w2 3 #[.int .i64 q.x0, .int .i64 q.y0, .int .i64 q.x1, .int .i64 q.y1])
  rw [hz2] at HN
  clear hb2 hW2 hbx hop
  go_enter Tryz.func75, Tryz.ntmps75
  go_wp2_with fail
  go_ret
  exact ⟨_, rfl, ⟨_, rfl, by omega, HN.out.lt, by have := HN.out.lay; exact this⟩, HW2.out.alloc HW2.out.size _⟩
theorem vals_14 (q : Req) (hop : q.op = 14) (w : World) : Calls Tryz.prog 75 #[.agg (rqC q)] w (VPost w [q.ax, q.ay]) := by
  obtain ⟨w1, w2, hst1, hst2, hz1, hz2, x0, x1, x2, x3, hb2, hbx, hW2⟩ := vals_pre q w
  have c0 : w2.cell? ⟨w.heap.size, 0, none⟩ = some (.int .i64 14) := by rw [← hop]; exact hb2.is 0 rfl
  have c20 : w2.cell? ⟨w.heap.size, 20, none⟩ = some (.int .i64 q.ax) := hb2.is 20 rfl
  have c21 : w2.cell? ⟨w.heap.size, 21, none⟩ = some (.int .i64 q.ay) := hb2.is 21 rfl
  have HW2 := Lib.hid hW2
  have HN := Lib.hid (Blk.new w2 3 #[.int .i64 q.ax, .int .i64 q.ay])
  rw [hz2] at HN
  clear hb2 hW2 hbx hop
  go_enter Tryz.func75, Tryz.ntmps75
  go_wp2_with fail
  go_ret
  exact ⟨_, rfl, ⟨_, rfl, by omega, HN.out.lt, by have := HN.out.lay; exact this⟩, HW2.out.alloc HW2.out.size _⟩
theorem vals_15 (q : Req) (hop : q.op = 15) (w : World) : Calls Tryz.prog 75 #[.agg (rqC q)] w (VPost w [q.x0, q.y0, q.x1, q.y1]) := by
  obtain ⟨w1, w2, hst1, hst2, hz1, hz2, x0, x1, x2, x3, hb2, hbx, hW2⟩ := vals_pre q w
  have c0 : w2.cell? ⟨w.heap.size, 0, none⟩ = some (.int .i64 15) := by rw [← hop]; exact hb2.is 0 rfl
  have b0 : w2.cell? ⟨w.heap.size + 1, 0, none⟩ = some (.int .i64 q.x0) := hbx.is 0 rfl
  have b1 : w2.cell? ⟨w.heap.size + 1, 1, none⟩ = some (.int .i64 q.y0) := hbx.is 1 rfl
  have b2 : w2.cell? ⟨w.heap.size + 1, 2, none⟩ = some (.int .i64 q.x1) := hbx.is 2 rfl
  have b3 : w2.cell? ⟨w.heap.size + 1, 3, none⟩ = some (.int .i64 q.y1) := hbx.is 3 rfl
  have HW2 := Lib.hid hW2
  have HN := Lib.hid (Blk.new w2 3 #[.int .i64 q.x0, .int .i64 q.y0, .int .i64 q.x1, .int .i64 q.y1])
  rw [hz2] at HN
  clear hb2 hW2 hbx hop
  go_enter Tryz.func75, Tryz.ntmps75
  go_wp2_with fail
  go_ret
  exact ⟨_, rfl, ⟨_, rfl, by omega, HN.out.lt, by have := HN.out.lay; exact this⟩, HW2.out.alloc HW2.out.size _⟩
theorem vals_16 (q : Req) (hop : q.op = 16) (w : World) : Calls Tryz.prog 75 #[.agg (rqC q)] w (VPost w [q.ax, q.ay]) := by
  obtain ⟨w1, w2, hst1, hst2, hz1, hz2, x0, x1, x2, x3, hb2, hbx, hW2⟩ := vals_pre q w
  have c0 : w2.cell? ⟨w.heap.size, 0, none⟩ = some (.int .i64 16) := by rw [← hop]; exact hb2.is 0 rfl
  have c20 : w2.cell? ⟨w.heap.size, 20, none⟩ = some (.int .i64 q.ax) := hb2.is 20 rfl
  have c21 : w2.cell? ⟨w.heap.size, 21, none⟩ = some (.int .i64 q.ay) := hb2.is 21 rfl
  have HW2 := Lib.hid hW2
  have HN := Lib.hid (Blk.new w2 3 #[.int .i64 q.ax, .int .i64 q.ay])
  rw [hz2] at HN
  clear hb2 hW2 hbx hop
  go_enter Tryz.func75, Tryz.ntmps75
  go_wp2_with fail
  go_ret
  exact ⟨_, rfl, ⟨_, rfl, by omega, HN.out.lt, by have := HN.out.lay; exact this⟩, HW2.out.alloc HW2.out.size _⟩
theorem vals_17 (q : Req) (hop : q.op = 17) (w : World) : Calls Tryz.prog 75 #[.agg (rqC q)] w (VPost w [q.frm]) := by
  obtain ⟨w1, w2, hst1, hst2, hz1, hz2, x0, x1, x2, x3, hb2, hbx, hW2⟩ := vals_pre q w
  have c0 : w2.cell? ⟨w.heap.size, 0, none⟩ = some (.int .i64 17) := by rw [← hop]; exact hb2.is 0 rfl
  have c23 : w2.cell? ⟨w.heap.size, 23, none⟩ = some (.int .i64 q.frm) := hb2.is 23 rfl
  have HW2 := Lib.hid hW2
  have HN := Lib.hid (Blk.new w2 3 #[.int .i64 q.frm])
  rw [hz2] at HN
  clear hb2 hW2 hbx hop
  go_enter Tryz.func75, Tryz.ntmps75
  go_wp2_with fail
  go_ret
  exact ⟨_, rfl, ⟨_, rfl, by omega, HN.out.lt, by have := HN.out.lay; exact this⟩, HW2.out.alloc HW2.out.size _⟩
theorem vals_18 (q : Req) (hop : q.op = 18) (w : World) : Calls Tryz.prog 75 #[.agg (rqC q)] w (VPost w []) := by
  obtain ⟨w1, w2, hst1, hst2, hz1, hz2, x0, x1, x2, x3, hb2, hbx, hW2⟩ := vals_pre q w
  have c0 : w2.cell? ⟨w.heap.size, 0, none⟩ = some (.int .i64 18) := by rw [← hop]; exact hb2.is 0 rfl
  have HW2 := Lib.hid hW2
  have HN := Lib.hid (Blk.new w2 3 #[])
  rw [hz2] at HN
  clear hb2 hW2 hbx hop
  go_enter Tryz.func75, Tryz.ntmps75
  go_wp2_with fail
  go_ret
  exact ⟨_, rfl, ⟨_, rfl, by omega, HN.out.lt, by have := HN.out.lay; exact this⟩, HW2.out.alloc HW2.out.size _⟩
theorem vals_19 (q : Req) (hop : q.op = 19) (w : World) : Calls Tryz.prog 75 #[.agg (rqC q)] w (VPost w [q.whom, q.quota]) := by
  obtain ⟨w1, w2, hst1, hst2, hz1, hz2, x0, x1, x2, x3, hb2, hbx, hW2⟩ := vals_pre q w
  have c0 : w2.cell? ⟨w.heap.size, 0, none⟩ = some (.int .i64 19) := by rw [← hop]; exact hb2.is 0 rfl
  have c5 : w2.cell? ⟨w.heap.size, 5, none⟩ = some (.int .i64 q.whom) := hb2.is 5 rfl
  have c8 : w2.cell? ⟨w.heap.size, 8, none⟩ = some (.int .i64 q.quota) := hb2.is 8 rfl
  have HW2 := Lib.hid hW2
  have HN := Lib.hid (Blk.new w2 3 #[.int .i64 q.whom, .int .i64 q.quota])
  rw [hz2] at HN
  clear hb2 hW2 hbx hop
  go_enter Tryz.func75, Tryz.ntmps75
  go_wp2_with fail
  go_ret
  exact ⟨_, rfl, ⟨_, rfl, by omega, HN.out.lt, by have := HN.out.lay; exact this⟩, HW2.out.alloc HW2.out.size _⟩
theorem vals_ok (q : Req) (h : isOp q.op = true) (w : World) : Calls Tryz.prog 75 #[.agg (rqC q)] w (VPost w (valsR q)) := by
  rcases isOp_cases h with h | h | h | h | h | h | h | h | h | h | h | h | h | h | h | h | h | h | h
  · have hc := vals_1 q h w
    simpa [valsR, h] using hc
  · have hc := vals_2 q h w
    simpa [valsR, h] using hc
  · have hc := vals_3 q h w
    simpa [valsR, h] using hc
  · have hc := vals_4 q h w
    simpa [valsR, h] using hc
  · have hc := vals_5 q h w
    simpa [valsR, h] using hc
  · have hc := vals_6 q h w
    simpa [valsR, h] using hc
  · have hc := vals_7 q h w
    simpa [valsR, h] using hc
  · have hc := vals_8 q h w
    simpa [valsR, h] using hc
  · have hc := vals_9 q h w
    simpa [valsR, h] using hc
  · have hc := vals_10 q h w
    simpa [valsR, h] using hc
  · have hc := vals_11 q h w
    simpa [valsR, h] using hc
  · have hc := vals_12 q h w
    simpa [valsR, h] using hc
  · have hc := vals_13 q h w
    simpa [valsR, h] using hc
  · have hc := vals_14 q h w
    simpa [valsR, h] using hc
  · have hc := vals_15 q h w
    simpa [valsR, h] using hc
  · have hc := vals_16 q h w
    simpa [valsR, h] using hc
  · have hc := vals_17 q h w
    simpa [valsR, h] using hc
  · have hc := vals_18 q h w
    simpa [valsR, h] using hc
  · have hc := vals_19 q h w
    simpa [valsR, h] using hc
def TabN (w w1 : World) (s : Value) : Prop := ∃ g, s = .slice (some ⟨g, 0, none⟩) 20 20 ∧ Below w.heap.size w w1 ∧ ∀ i : Nat, isOp i = true → ∃ v, w1.cell? ⟨g, i, none⟩ = some v ∧ SlN inC w1 w.heap.size v (widths i)
theorem tabN_allocs (os : List Obj) (w : World) (g : Nat) (vs : Array Value) (hg : g = w.heap.size + 20) (ho : os[20]? = some (.cells vs 124 (0, 0)))
    (hr : ∀ i : Nat, isOp i = true → vs[i]? = some (.slice (some ⟨w.heap.size + i, 0, none⟩) (widths i).length (widths i).length) ∧ os[i]? = some (.cells ((widths i).flatMap inC).toArray 3 (0, 0)) ∧ (widths i).length ≤ 100) :
    TabN w (allocs w os) (.slice (some ⟨g, 0, none⟩) 20 20) := by
  refine ⟨g, rfl, allocs_below os w, fun i hi => ?_⟩
  obtain ⟨h1, h2, h3⟩ := hr i hi
  subst hg
  have hb : Blk (allocs w os) (w.heap.size + 20) 124 vs := allocs_get os w 20 _ ho
  have hg2 := allocs_get os w i _ h2
  exact ⟨_, hb.is i h1, ⟨_, rfl, by omega, (Array.getElem?_eq_some_iff.1 hg2).1, by have := Blk.lay (show Blk (allocs w os) (w.heap.size + i) 3 ((widths i).flatMap inC).toArray from hg2); simpa using this⟩⟩
theorem rfieldsN_ok (op : Int) (h : isOp op = true) (w : World) : Calls Tryz.prog 76 #[.int .i64 op] w fun e w' => ∃ v, e = .returned v ∧ SlN inC w' w.heap.size v (widths op) ∧ Below w.heap.size w w' := by
  obtain ⟨i, rfl⟩ : ∃ i : Nat, op = i := ⟨op.toNat, by have := (isOp_le h).1; omega⟩
  have hi := isOp_le h
  have HO := Lib.hid h
  clear h
  go_enter Tryz.func76, Tryz.ntmps76
  go_upto_region 1 with fail
  go_cut [3] (fun s w1 => TabN w w1 s)
  case first =>
    go_wp2_with fail
    go_meet
    change TabN w (allocs w [_, _, _, _, _, _, _, _, _, _, _, _, _, _, _, _, _, _, _, _, _]) _
    refine tabN_allocs _ w _ _ rfl rfl fun i hi => ?_
    have h19 := isOp_le hi
    obtain rfl | rfl | rfl | rfl | rfl | rfl | rfl | rfl | rfl | rfl | rfl | rfl | rfl | rfl | rfl | rfl | rfl | rfl | rfl : i = 1 ∨ i = 2 ∨ i = 3 ∨ i = 4 ∨ i = 5 ∨ i = 6 ∨ i = 7 ∨ i = 8 ∨ i = 9 ∨ i = 10 ∨ i = 11 ∨ i = 12 ∨ i = 13 ∨ i = 14 ∨ i = 15 ∨ i = 16 ∨ i = 17 ∨ i = 18 ∨ i = 19 := by omega
    all_goals exact ⟨rfl, rfl, by decide⟩
  case rest =>
    obtain ⟨g, rfl, hb, hrow⟩ := hcut
    obtain ⟨v, hv, hs⟩ := hrow i HO.out
    have HS := Lib.hid hs
    clear hrow hs
    go_wp2_with fail
    go_ret
    exact ⟨_, rfl, HS.out, hb⟩
end Go.Proofs.YtldjgpnbkbmgoaaGreatDoor

namespace Go.Proofs.YtldjgpnbkbmgoaaGreatDoor
open Go.RowKit Go.ChangeShapes Go.WideShapes Go.Lib
attribute [local go_sem ↓] load_req stop_req
theorem withR_txt {q : Req} {l : List Nat} {t : List UInt8} (h : q.txt.length ≤ 512) (ht : t.length ≤ 512) : (withR q l t).txt.length ≤ 512 := by
  unfold withR
  repeat' refine ite_R (p := fun z => z.txt.length ≤ 512) ?_ ?_
  all_goals first | exact h | exact ht
@[go_sem high] theorem eqReq0 (x : Req) (w : World) : (Op.equalIn 10000 60 (.agg (rqC x)) (.agg zeroC)).run Tryz.prog w = .ok (reqEq x (zeroR 0)) w := eqReq x (zeroR 0) w
end Go.Proofs.YtldjgpnbkbmgoaaGreatDoor

namespace Go.Proofs.YtldjgpnbkbmgoaaGreatDoor
open Go.RowKit Go.Lib
def pF (p : List UInt8 × Bool) (x : Int × Nat) : List UInt8 × Bool := (putL p.1 x.1 x.2, p.2 && putB x.1 x.2)
def pFs (p : List UInt8 × Bool) (xs : List (Int × Nat)) : List UInt8 × Bool := xs.foldl pF p
theorem pFs_snoc (p : List UInt8 × Bool) (xs : List (Int × Nat)) (x : Int × Nat) : pFs p (xs ++ [x]) = pF (pFs p xs) x := by
  unfold pFs
  rw [List.foldl_append]
  rfl
theorem putL_len (l : List UInt8) (n : Int) (k : Nat) : (putL l n k).length ≤ l.length + k := by
  unfold putL
  split
  · omega
  · simp [toBE_len]
theorem pFs_len : ∀ (xs : List (Int × Nat)) (p : List UInt8 × Bool), (∀ x ∈ xs, x.2 ≤ 8) → (pFs p xs).1.length ≤ p.1.length + 8 * xs.length
  | [], p, _ => by simp [pFs]
  | x :: xs, p, h => by
    have h1 := h x (List.mem_cons_self ..)
    have h2 := putL_len p.1 x.1 x.2
    have h3 := pFs_len xs (pF p x) fun y hy => h y (List.mem_cons_of_mem _ hy)
    have e : pFs p (x :: xs) = pFs (pF p x) xs := rfl
    rw [e, List.length_cons]
    have e2 : (pF p x).1 = putL p.1 x.1 x.2 := rfl
    rw [e2] at h3
    omega
def aheadP (q : Req) : List (Int × Nat) := [(q.op, 1), (q.tenant, 1), (q.user, 2)]
def rbA (q : Req) : List UInt8 × Bool := pFs ([], true) (aheadP q)
def rbB (q : Req) : List UInt8 × Bool := pF ((rbA q).1 ++ toBE 8 q.secret, (rbA q).2) (q.m, 1)
def rbC (q : Req) : List UInt8 × Bool := pFs (rbB q) ((valsR q).zip (widths q.op))
def rbLong (q : Req) : Nat := if q.op = 6 then q.other else q.area
def rbD (q : Req) : List UInt8 := (rbC q).1 ++ (if q.op = 6 ∨ q.op = 7 then toBE 8 (rbLong q) else [])
def rbL (q : Req) : List UInt8 := rbD q ++ (if q.op = 3 then q.txt else [])
def rbOk (q : Req) : Bool := isOp q.op && (decide (q.m ≤ 64) && (decide (q.txt.length ≤ 512) && ((rbC q).2 && (reqEq (rdec (rbL q)).1 q && decide ((rdec (rbL q)).2 = 0)))))
def Req.ib (q : Req) : Prop := ∀ x ∈ [q.op, q.tenant, q.user, q.m, q.whom, q.role, q.tier, q.quota, q.rights, q.zoom, q.x0, q.y0, q.x1, q.y1, q.til, q.pk, q.ax, q.ay, q.label, q.frm], x < 9223372036854775808
theorem putL_nat (l : List UInt8) (n k : Nat) : putL l (n : Int) k = l ++ toBE k n := by
  unfold putL
  rw [if_neg (by omega)]
  rfl
theorem putB_nat (n k : Nat) (h : n < 256 ^ k) : putB (n : Int) k = true := by
  unfold putB
  rw [decide_eq_true (by omega)]
  simpa using h
theorem pF_nat (l : List UInt8) (n k : Nat) (h : n < 256 ^ k) : pF (l, true) ((n : Int), k) = (l ++ toBE k n, true) := by
  unfold pF
  rw [putL_nat, putB_nat n k h]
  rfl
theorem be_take_lt (k : Nat) (l : List UInt8) : beNat (l.take k) < 256 ^ k := by
  have h := beNat_lt (l.take k).length (l.take k) rfl
  exact Nat.lt_of_lt_of_le h (Nat.pow_le_pow_right (by omega) (by simp; omega))
theorem rb_ahead {l : List UInt8} (h : 13 ≤ l.length) (z : Req) (h0 : z.op = (headR l).op) (h1 : z.tenant = (headR l).tenant) (h2 : z.user = (headR l).user) (h3 : z.secret = (headR l).secret) (h4 : z.m = (headR l).m) : rbB z = (l.take 13, true) := by
  obtain ⟨b0, b1, b2, b3, b4, b5, b6, b7, b8, b9, b10, b11, b12, r, rfl⟩ := split13 (Nat.not_lt.2 h)
  have u0 : b0.toNat < 256 := b0.toNat_lt
  have u1 : b1.toNat < 256 := b1.toNat_lt
  have u2 : b2.toNat < 256 := b2.toNat_lt
  have u3 : b3.toNat < 256 := b3.toNat_lt
  have u12 : b12.toNat < 256 := b12.toNat_lt
  have e0 : z.op = ((beNat [b0] : Nat) : Int) := by rw [h0, beNat_one]; rfl
  have e1 : z.tenant = ((beNat [b1] : Nat) : Int) := by rw [h1, beNat_one]; rfl
  have e2 : z.user = ((beNat [b2, b3] : Nat) : Int) := by rw [h2, beNat_cons2]; simp [headR, byN]
  have e3 : z.secret = beNat [b4, b5, b6, b7, b8, b9, b10, b11] := by rw [h3]; rfl
  have e4 : z.m = ((beNat [b12] : Nat) : Int) := by rw [h4, beNat_one]; rfl
  have f0 : beNat [b0] < 256 ^ 1 := by rw [beNat_one]; omega
  have f1 : beNat [b1] < 256 ^ 1 := by rw [beNat_one]; omega
  have f2 : beNat [b2, b3] < 256 ^ 2 := by rw [beNat_cons2]; omega
  have f4 : beNat [b12] < 256 ^ 1 := by rw [beNat_one]; omega
  have ea : rbA z = ([b0, b1, b2, b3], true) := by
    show pF (pF (pF ([], true) (z.op, 1)) (z.tenant, 1)) (z.user, 2) = _
    rw [e0, e1, e2, pF_nat _ _ _ f0, pF_nat _ _ _ f1, pF_nat _ _ _ f2, toBE_beNat 1 [b0] rfl, toBE_beNat 1 [b1] rfl, toBE_beNat 2 [b2, b3] rfl]
    rfl
  unfold rbB
  rw [ea, e3, e4, pF_nat _ _ _ f4, toBE_beNat 8 [b4, b5, b6, b7, b8, b9, b10, b11] rfl, toBE_beNat 1 [b12] rfl]
  rfl
theorem rb_1 (l : List UInt8) (h : Good l) (hop : (headR l).op = 1) : rbL (bodyQ l) = l ∧ (rbC (bodyQ l)).2 = true := by
  have hh := withR_head (headR l) (cutN (l.drop 13) (widths (headR l).op)) (if (headR l).op = 3 then l.drop 13 else [])
  have hB := rb_ahead h.len (bodyQ l) hh.op hh.tenant hh.user hh.secret hh.m
  have ho : (bodyQ l).op = 1 := by rw [bodyQ_op, hop]
  have hr : (l.drop 13).length = 6 := by
    have h1 := h.lo
    have h2 := h.hi (by rw [hop]; decide)
    have h3 : fieldsN 1 = 6 := rfl
    rw [hop, h3] at h1 h2
    rw [List.length_drop]
    omega
  have hz := show bodyQ l = withR (headR l) (cutN (l.drop 13) (widths (headR l).op)) (if (headR l).op = 3 then l.drop 13 else []) from rfl
  simp only [withR, hop, widths] at hz
  simp only [reduceIte, Int.reduceEq] at hz
  obtain ⟨a, ha⟩ : ∃ a, l.take 13 = a := ⟨_, rfl⟩
  obtain ⟨r, hrr⟩ : ∃ r, l.drop 13 = r := ⟨_, rfl⟩
  have hl : l = a ++ r := by rw [← ha, ← hrr, List.take_append_drop]
  rw [ha] at hB
  rw [hrr] at hr hz
  have v0 : (bodyQ l).whom = ((beNat (r.take 2) : Nat) : Int) := by rw [hz]; simp [cutN, List.drop_drop]
  have v1 : (bodyQ l).role = ((beNat ((r.drop 2).take 1) : Nat) : Int) := by rw [hz]; simp [cutN, List.drop_drop]
  have v2 : (bodyQ l).tier = ((beNat ((r.drop 3).take 1) : Nat) : Int) := by rw [hz]; simp [cutN, List.drop_drop]
  have v3 : (bodyQ l).quota = ((beNat ((r.drop 4).take 2) : Nat) : Int) := by rw [hz]; simp [cutN, List.drop_drop]
  have hv : valsR (bodyQ l) = [(bodyQ l).whom, (bodyQ l).role, (bodyQ l).tier, (bodyQ l).quota] := by unfold valsR; simp [ho]
  have hC : rbC (bodyQ l) = (((((a ++ (r.take 2)) ++ ((r.drop 2).take 1)) ++ ((r.drop 3).take 1)) ++ ((r.drop 4).take 2)), true) := by
    unfold rbC
    rw [hB, hv, ho]
    show pF (pF (pF (pF ((a, true)) ((bodyQ l).whom, 2)) ((bodyQ l).role, 1)) ((bodyQ l).tier, 1)) ((bodyQ l).quota, 2) = _
    rw [v0, pF_nat _ _ _ (be_take_lt _ _), toBE_take 2 r (by omega), v1, pF_nat _ _ _ (be_take_lt _ _), toBE_take 1 (r.drop 2) (by rw [List.length_drop]; omega), v2, pF_nat _ _ _ (be_take_lt _ _), toBE_take 1 (r.drop 3) (by rw [List.length_drop]; omega), v3, pF_nat _ _ _ (be_take_lt _ _), toBE_take 2 (r.drop 4) (by rw [List.length_drop]; omega)]
  refine ⟨?_, by rw [hC]⟩
  unfold rbL rbD rbLong
  rw [hC, ho]
  simp only [reduceIte, Int.reduceEq, or_false, List.append_nil]
  have hj : ((((r.take 2) ++ ((r.drop 2).take 1)) ++ ((r.drop 3).take 1)) ++ ((r.drop 4).take 2)) = r := by rw [← List.take_add, ← List.take_add, ← List.take_add, List.take_of_length_le (by omega)]
  have e := hl.trans (congrArg (a ++ ·) hj.symm)
  rw [e]
  try simp only [List.append_assoc]
theorem rb_2 (l : List UInt8) (h : Good l) (hop : (headR l).op = 2) : rbL (bodyQ l) = l ∧ (rbC (bodyQ l)).2 = true := by
  have hh := withR_head (headR l) (cutN (l.drop 13) (widths (headR l).op)) (if (headR l).op = 3 then l.drop 13 else [])
  have hB := rb_ahead h.len (bodyQ l) hh.op hh.tenant hh.user hh.secret hh.m
  have ho : (bodyQ l).op = 2 := by rw [bodyQ_op, hop]
  have hr : (l.drop 13).length = 2 := by
    have h1 := h.lo
    have h2 := h.hi (by rw [hop]; decide)
    have h3 : fieldsN 2 = 2 := rfl
    rw [hop, h3] at h1 h2
    rw [List.length_drop]
    omega
  have hz := show bodyQ l = withR (headR l) (cutN (l.drop 13) (widths (headR l).op)) (if (headR l).op = 3 then l.drop 13 else []) from rfl
  simp only [withR, hop, widths] at hz
  simp only [reduceIte, Int.reduceEq] at hz
  obtain ⟨a, ha⟩ : ∃ a, l.take 13 = a := ⟨_, rfl⟩
  obtain ⟨r, hrr⟩ : ∃ r, l.drop 13 = r := ⟨_, rfl⟩
  have hl : l = a ++ r := by rw [← ha, ← hrr, List.take_append_drop]
  rw [ha] at hB
  rw [hrr] at hr hz
  have v0 : (bodyQ l).whom = ((beNat (r.take 2) : Nat) : Int) := by rw [hz]; simp [cutN]
  have hv : valsR (bodyQ l) = [(bodyQ l).whom] := by unfold valsR; simp [ho]
  have hC : rbC (bodyQ l) = ((a ++ (r.take 2)), true) := by
    unfold rbC
    rw [hB, hv, ho]
    show pF ((a, true)) ((bodyQ l).whom, 2) = _
    rw [v0, pF_nat _ _ _ (be_take_lt _ _), toBE_take 2 r (by omega)]
  refine ⟨?_, by rw [hC]⟩
  unfold rbL rbD rbLong
  rw [hC, ho]
  simp only [reduceIte, Int.reduceEq, or_false, List.append_nil]
  have hj : (r.take 2) = r := by rw [List.take_of_length_le (by omega)]
  have e := hl.trans (congrArg (a ++ ·) hj.symm)
  rw [e]
  try simp only [List.append_assoc]
theorem rb_3 (l : List UInt8) (h : Good l) (hop : (headR l).op = 3) : rbL (bodyQ l) = l ∧ (rbC (bodyQ l)).2 = true := by
  have hh := withR_head (headR l) (cutN (l.drop 13) (widths (headR l).op)) (if (headR l).op = 3 then l.drop 13 else [])
  have hB := rb_ahead h.len (bodyQ l) hh.op hh.tenant hh.user hh.secret hh.m
  have ho : (bodyQ l).op = 3 := by rw [bodyQ_op, hop]
  have hz := show bodyQ l = withR (headR l) (cutN (l.drop 13) (widths (headR l).op)) (if (headR l).op = 3 then l.drop 13 else []) from rfl
  simp only [withR, hop, widths] at hz
  simp only [reduceIte, Int.reduceEq] at hz
  obtain ⟨a, ha⟩ : ∃ a, l.take 13 = a := ⟨_, rfl⟩
  obtain ⟨r, hrr⟩ : ∃ r, l.drop 13 = r := ⟨_, rfl⟩
  have hl : l = a ++ r := by rw [← ha, ← hrr, List.take_append_drop]
  rw [ha] at hB
  rw [hrr] at hz
  have vt : (bodyQ l).txt = r := by rw [hz]
  have hv : valsR (bodyQ l) = [] := by unfold valsR; simp [ho]
  have hC : rbC (bodyQ l) = (a, true) := by
    unfold rbC
    rw [hB, hv, ho]
    show (a, true) = _
    rfl
  refine ⟨?_, by rw [hC]⟩
  unfold rbL rbD rbLong
  rw [hC, ho]
  simp only [reduceIte, Int.reduceEq, or_false, List.append_nil]
  rw [vt, hl]
theorem rb_4 (l : List UInt8) (h : Good l) (hop : (headR l).op = 4) : rbL (bodyQ l) = l ∧ (rbC (bodyQ l)).2 = true := by
  have hh := withR_head (headR l) (cutN (l.drop 13) (widths (headR l).op)) (if (headR l).op = 3 then l.drop 13 else [])
  have hB := rb_ahead h.len (bodyQ l) hh.op hh.tenant hh.user hh.secret hh.m
  have ho : (bodyQ l).op = 4 := by rw [bodyQ_op, hop]
  have hr : (l.drop 13).length = 7 := by
    have h1 := h.lo
    have h2 := h.hi (by rw [hop]; decide)
    have h3 : fieldsN 4 = 7 := rfl
    rw [hop, h3] at h1 h2
    rw [List.length_drop]
    omega
  have hz := show bodyQ l = withR (headR l) (cutN (l.drop 13) (widths (headR l).op)) (if (headR l).op = 3 then l.drop 13 else []) from rfl
  simp only [withR, hop, widths] at hz
  simp only [reduceIte, Int.reduceEq] at hz
  obtain ⟨a, ha⟩ : ∃ a, l.take 13 = a := ⟨_, rfl⟩
  obtain ⟨r, hrr⟩ : ∃ r, l.drop 13 = r := ⟨_, rfl⟩
  have hl : l = a ++ r := by rw [← ha, ← hrr, List.take_append_drop]
  rw [ha] at hB
  rw [hrr] at hr hz
  have v0 : (bodyQ l).whom = ((beNat (r.take 2) : Nat) : Int) := by rw [hz]; simp [cutN, List.drop_drop]
  have v1 : (bodyQ l).rights = ((beNat ((r.drop 2).take 1) : Nat) : Int) := by rw [hz]; simp [cutN, List.drop_drop]
  have v2 : (bodyQ l).til = ((beNat ((r.drop 3).take 4) : Nat) : Int) := by rw [hz]; simp [cutN, List.drop_drop]
  have hv : valsR (bodyQ l) = [(bodyQ l).whom, (bodyQ l).rights, (bodyQ l).til] := by unfold valsR; simp [ho]
  have hC : rbC (bodyQ l) = ((((a ++ (r.take 2)) ++ ((r.drop 2).take 1)) ++ ((r.drop 3).take 4)), true) := by
    unfold rbC
    rw [hB, hv, ho]
    show pF (pF (pF ((a, true)) ((bodyQ l).whom, 2)) ((bodyQ l).rights, 1)) ((bodyQ l).til, 4) = _
    rw [v0, pF_nat _ _ _ (be_take_lt _ _), toBE_take 2 r (by omega), v1, pF_nat _ _ _ (be_take_lt _ _), toBE_take 1 (r.drop 2) (by rw [List.length_drop]; omega), v2, pF_nat _ _ _ (be_take_lt _ _), toBE_take 4 (r.drop 3) (by rw [List.length_drop]; omega)]
  refine ⟨?_, by rw [hC]⟩
  unfold rbL rbD rbLong
  rw [hC, ho]
  simp only [reduceIte, Int.reduceEq, or_false, List.append_nil]
  have hj : (((r.take 2) ++ ((r.drop 2).take 1)) ++ ((r.drop 3).take 4)) = r := by rw [← List.take_add, ← List.take_add, List.take_of_length_le (by omega)]
  have e := hl.trans (congrArg (a ++ ·) hj.symm)
  rw [e]
  try simp only [List.append_assoc]
theorem rb_5 (l : List UInt8) (h : Good l) (hop : (headR l).op = 5) : rbL (bodyQ l) = l ∧ (rbC (bodyQ l)).2 = true := by
  have hh := withR_head (headR l) (cutN (l.drop 13) (widths (headR l).op)) (if (headR l).op = 3 then l.drop 13 else [])
  have hB := rb_ahead h.len (bodyQ l) hh.op hh.tenant hh.user hh.secret hh.m
  have ho : (bodyQ l).op = 5 := by rw [bodyQ_op, hop]
  have hr : (l.drop 13).length = 14 := by
    have h1 := h.lo
    have h2 := h.hi (by rw [hop]; decide)
    have h3 : fieldsN 5 = 14 := rfl
    rw [hop, h3] at h1 h2
    rw [List.length_drop]
    omega
  have hz := show bodyQ l = withR (headR l) (cutN (l.drop 13) (widths (headR l).op)) (if (headR l).op = 3 then l.drop 13 else []) from rfl
  simp only [withR, hop, widths] at hz
  simp only [reduceIte, Int.reduceEq] at hz
  obtain ⟨a, ha⟩ : ∃ a, l.take 13 = a := ⟨_, rfl⟩
  obtain ⟨r, hrr⟩ : ∃ r, l.drop 13 = r := ⟨_, rfl⟩
  have hl : l = a ++ r := by rw [← ha, ← hrr, List.take_append_drop]
  rw [ha] at hB
  rw [hrr] at hr hz
  have v0 : (bodyQ l).rights = ((beNat (r.take 1) : Nat) : Int) := by rw [hz]; simp [cutN, List.drop_drop]
  have v1 : (bodyQ l).zoom = ((beNat ((r.drop 1).take 1) : Nat) : Int) := by rw [hz]; simp [cutN, List.drop_drop]
  have v2 : (bodyQ l).x0 = ((beNat ((r.drop 2).take 2) : Nat) : Int) := by rw [hz]; simp [cutN, List.drop_drop]
  have v3 : (bodyQ l).y0 = ((beNat ((r.drop 4).take 2) : Nat) : Int) := by rw [hz]; simp [cutN, List.drop_drop]
  have v4 : (bodyQ l).x1 = ((beNat ((r.drop 6).take 2) : Nat) : Int) := by rw [hz]; simp [cutN, List.drop_drop]
  have v5 : (bodyQ l).y1 = ((beNat ((r.drop 8).take 2) : Nat) : Int) := by rw [hz]; simp [cutN, List.drop_drop]
  have v6 : (bodyQ l).til = ((beNat ((r.drop 10).take 4) : Nat) : Int) := by rw [hz]; simp [cutN, List.drop_drop]
  have hv : valsR (bodyQ l) = [(bodyQ l).rights, (bodyQ l).zoom, (bodyQ l).x0, (bodyQ l).y0, (bodyQ l).x1, (bodyQ l).y1, (bodyQ l).til] := by unfold valsR; simp [ho]
  have hC : rbC (bodyQ l) = ((((((((a ++ (r.take 1)) ++ ((r.drop 1).take 1)) ++ ((r.drop 2).take 2)) ++ ((r.drop 4).take 2)) ++ ((r.drop 6).take 2)) ++ ((r.drop 8).take 2)) ++ ((r.drop 10).take 4)), true) := by
    unfold rbC
    rw [hB, hv, ho]
    show pF (pF (pF (pF (pF (pF (pF ((a, true)) ((bodyQ l).rights, 1)) ((bodyQ l).zoom, 1)) ((bodyQ l).x0, 2)) ((bodyQ l).y0, 2)) ((bodyQ l).x1, 2)) ((bodyQ l).y1, 2)) ((bodyQ l).til, 4) = _
    rw [v0, pF_nat _ _ _ (be_take_lt _ _), toBE_take 1 r (by omega), v1, pF_nat _ _ _ (be_take_lt _ _), toBE_take 1 (r.drop 1) (by rw [List.length_drop]; omega), v2, pF_nat _ _ _ (be_take_lt _ _), toBE_take 2 (r.drop 2) (by rw [List.length_drop]; omega), v3, pF_nat _ _ _ (be_take_lt _ _), toBE_take 2 (r.drop 4) (by rw [List.length_drop]; omega), v4, pF_nat _ _ _ (be_take_lt _ _), toBE_take 2 (r.drop 6) (by rw [List.length_drop]; omega), v5, pF_nat _ _ _ (be_take_lt _ _), toBE_take 2 (r.drop 8) (by rw [List.length_drop]; omega), v6, pF_nat _ _ _ (be_take_lt _ _), toBE_take 4 (r.drop 10) (by rw [List.length_drop]; omega)]
  refine ⟨?_, by rw [hC]⟩
  unfold rbL rbD rbLong
  rw [hC, ho]
  simp only [reduceIte, Int.reduceEq, or_false, List.append_nil]
  have hj : (((((((r.take 1) ++ ((r.drop 1).take 1)) ++ ((r.drop 2).take 2)) ++ ((r.drop 4).take 2)) ++ ((r.drop 6).take 2)) ++ ((r.drop 8).take 2)) ++ ((r.drop 10).take 4)) = r := by rw [← List.take_add, ← List.take_add, ← List.take_add, ← List.take_add, ← List.take_add, ← List.take_add, List.take_of_length_le (by omega)]
  have e := hl.trans (congrArg (a ++ ·) hj.symm)
  rw [e]
  try simp only [List.append_assoc]
theorem rb_6 (l : List UInt8) (h : Good l) (hop : (headR l).op = 6) : rbL (bodyQ l) = l ∧ (rbC (bodyQ l)).2 = true := by
  have hh := withR_head (headR l) (cutN (l.drop 13) (widths (headR l).op)) (if (headR l).op = 3 then l.drop 13 else [])
  have hB := rb_ahead h.len (bodyQ l) hh.op hh.tenant hh.user hh.secret hh.m
  have ho : (bodyQ l).op = 6 := by rw [bodyQ_op, hop]
  have hr : (l.drop 13).length = 8 := by
    have h1 := h.lo
    have h2 := h.hi (by rw [hop]; decide)
    have h3 : fieldsN 6 = 8 := rfl
    rw [hop, h3] at h1 h2
    rw [List.length_drop]
    omega
  have hz := show bodyQ l = withR (headR l) (cutN (l.drop 13) (widths (headR l).op)) (if (headR l).op = 3 then l.drop 13 else []) from rfl
  simp only [withR, hop, widths] at hz
  simp only [reduceIte, Int.reduceEq] at hz
  obtain ⟨a, ha⟩ : ∃ a, l.take 13 = a := ⟨_, rfl⟩
  obtain ⟨r, hrr⟩ : ∃ r, l.drop 13 = r := ⟨_, rfl⟩
  have hl : l = a ++ r := by rw [← ha, ← hrr, List.take_append_drop]
  rw [ha] at hB
  rw [hrr] at hr hz
  have v0 : (bodyQ l).other = beNat (r.take 8) := by rw [hz]; simp [cutN]
  have hv : valsR (bodyQ l) = [] := by unfold valsR; simp [ho]
  have hC : rbC (bodyQ l) = (a, true) := by
    unfold rbC
    rw [hB, hv, ho]
    show (a, true) = _
    rfl
  refine ⟨?_, by rw [hC]⟩
  unfold rbL rbD rbLong
  rw [hC, ho]
  simp only [reduceIte, Int.reduceEq, or_false, List.append_nil]
  rw [v0, toBE_take 8 r (by omega)]
  have hj : (r.take 8) = r := by rw [List.take_of_length_le (by omega)]
  have e := hl.trans (congrArg (a ++ ·) hj.symm)
  rw [e]
  try simp only [List.append_assoc]
theorem rb_7 (l : List UInt8) (h : Good l) (hop : (headR l).op = 7) : rbL (bodyQ l) = l ∧ (rbC (bodyQ l)).2 = true := by
  have hh := withR_head (headR l) (cutN (l.drop 13) (widths (headR l).op)) (if (headR l).op = 3 then l.drop 13 else [])
  have hB := rb_ahead h.len (bodyQ l) hh.op hh.tenant hh.user hh.secret hh.m
  have ho : (bodyQ l).op = 7 := by rw [bodyQ_op, hop]
  have hr : (l.drop 13).length = 10 := by
    have h1 := h.lo
    have h2 := h.hi (by rw [hop]; decide)
    have h3 : fieldsN 7 = 10 := rfl
    rw [hop, h3] at h1 h2
    rw [List.length_drop]
    omega
  have hz := show bodyQ l = withR (headR l) (cutN (l.drop 13) (widths (headR l).op)) (if (headR l).op = 3 then l.drop 13 else []) from rfl
  simp only [withR, hop, widths] at hz
  simp only [reduceIte, Int.reduceEq] at hz
  obtain ⟨a, ha⟩ : ∃ a, l.take 13 = a := ⟨_, rfl⟩
  obtain ⟨r, hrr⟩ : ∃ r, l.drop 13 = r := ⟨_, rfl⟩
  have hl : l = a ++ r := by rw [← ha, ← hrr, List.take_append_drop]
  rw [ha] at hB
  rw [hrr] at hr hz
  have v0 : (bodyQ l).pk = ((beNat (r.take 2) : Nat) : Int) := by rw [hz]; simp [cutN]
  have v1 : (bodyQ l).area = beNat ((r.drop 2).take 8) := by rw [hz]; simp [cutN]
  have hv : valsR (bodyQ l) = [(bodyQ l).pk] := by unfold valsR; simp [ho]
  have hC : rbC (bodyQ l) = ((a ++ (r.take 2)), true) := by
    unfold rbC
    rw [hB, hv, ho]
    show pF ((a, true)) ((bodyQ l).pk, 2) = _
    rw [v0, pF_nat _ _ _ (be_take_lt _ _), toBE_take 2 r (by omega)]
  refine ⟨?_, by rw [hC]⟩
  unfold rbL rbD rbLong
  rw [hC, ho]
  simp only [reduceIte, Int.reduceEq, or_true, List.append_nil]
  rw [v1, toBE_take 8 (r.drop 2) (by rw [List.length_drop]; omega)]
  have hj : ((r.take 2) ++ ((r.drop 2).take 8)) = r := by rw [← List.take_add, List.take_of_length_le (by omega)]
  have e := hl.trans (congrArg (a ++ ·) hj.symm)
  rw [e]
  try simp only [List.append_assoc]
theorem rb_8 (l : List UInt8) (h : Good l) (hop : (headR l).op = 8) : rbL (bodyQ l) = l ∧ (rbC (bodyQ l)).2 = true := by
  have hh := withR_head (headR l) (cutN (l.drop 13) (widths (headR l).op)) (if (headR l).op = 3 then l.drop 13 else [])
  have hB := rb_ahead h.len (bodyQ l) hh.op hh.tenant hh.user hh.secret hh.m
  have ho : (bodyQ l).op = 8 := by rw [bodyQ_op, hop]
  have hr : (l.drop 13).length = 5 := by
    have h1 := h.lo
    have h2 := h.hi (by rw [hop]; decide)
    have h3 : fieldsN 8 = 5 := rfl
    rw [hop, h3] at h1 h2
    rw [List.length_drop]
    omega
  have hz := show bodyQ l = withR (headR l) (cutN (l.drop 13) (widths (headR l).op)) (if (headR l).op = 3 then l.drop 13 else []) from rfl
  simp only [withR, hop, widths] at hz
  simp only [reduceIte, Int.reduceEq] at hz
  obtain ⟨a, ha⟩ : ∃ a, l.take 13 = a := ⟨_, rfl⟩
  obtain ⟨r, hrr⟩ : ∃ r, l.drop 13 = r := ⟨_, rfl⟩
  have hl : l = a ++ r := by rw [← ha, ← hrr, List.take_append_drop]
  rw [ha] at hB
  rw [hrr] at hr hz
  have v0 : (bodyQ l).ax = ((beNat (r.take 2) : Nat) : Int) := by rw [hz]; simp [cutN, List.drop_drop]
  have v1 : (bodyQ l).ay = ((beNat ((r.drop 2).take 2) : Nat) : Int) := by rw [hz]; simp [cutN, List.drop_drop]
  have v2 : (bodyQ l).label = ((beNat ((r.drop 4).take 1) : Nat) : Int) := by rw [hz]; simp [cutN, List.drop_drop]
  have hv : valsR (bodyQ l) = [(bodyQ l).ax, (bodyQ l).ay, (bodyQ l).label] := by unfold valsR; simp [ho]
  have hC : rbC (bodyQ l) = ((((a ++ (r.take 2)) ++ ((r.drop 2).take 2)) ++ ((r.drop 4).take 1)), true) := by
    unfold rbC
    rw [hB, hv, ho]
    show pF (pF (pF ((a, true)) ((bodyQ l).ax, 2)) ((bodyQ l).ay, 2)) ((bodyQ l).label, 1) = _
    rw [v0, pF_nat _ _ _ (be_take_lt _ _), toBE_take 2 r (by omega), v1, pF_nat _ _ _ (be_take_lt _ _), toBE_take 2 (r.drop 2) (by rw [List.length_drop]; omega), v2, pF_nat _ _ _ (be_take_lt _ _), toBE_take 1 (r.drop 4) (by rw [List.length_drop]; omega)]
  refine ⟨?_, by rw [hC]⟩
  unfold rbL rbD rbLong
  rw [hC, ho]
  simp only [reduceIte, Int.reduceEq, or_false, List.append_nil]
  have hj : (((r.take 2) ++ ((r.drop 2).take 2)) ++ ((r.drop 4).take 1)) = r := by rw [← List.take_add, ← List.take_add, List.take_of_length_le (by omega)]
  have e := hl.trans (congrArg (a ++ ·) hj.symm)
  rw [e]
  try simp only [List.append_assoc]
theorem rb_9 (l : List UInt8) (h : Good l) (hop : (headR l).op = 9) : rbL (bodyQ l) = l ∧ (rbC (bodyQ l)).2 = true := by
  have hh := withR_head (headR l) (cutN (l.drop 13) (widths (headR l).op)) (if (headR l).op = 3 then l.drop 13 else [])
  have hB := rb_ahead h.len (bodyQ l) hh.op hh.tenant hh.user hh.secret hh.m
  have ho : (bodyQ l).op = 9 := by rw [bodyQ_op, hop]
  have hr : (l.drop 13).length = 0 := by
    have h1 := h.lo
    have h2 := h.hi (by rw [hop]; decide)
    have h3 : fieldsN 9 = 0 := rfl
    rw [hop, h3] at h1 h2
    rw [List.length_drop]
    omega
  have hz := show bodyQ l = withR (headR l) (cutN (l.drop 13) (widths (headR l).op)) (if (headR l).op = 3 then l.drop 13 else []) from rfl
  simp only [withR, hop, widths] at hz
  simp only [reduceIte, Int.reduceEq] at hz
  obtain ⟨a, ha⟩ : ∃ a, l.take 13 = a := ⟨_, rfl⟩
  obtain ⟨r, hrr⟩ : ∃ r, l.drop 13 = r := ⟨_, rfl⟩
  have hl : l = a ++ r := by rw [← ha, ← hrr, List.take_append_drop]
  rw [ha] at hB
  rw [hrr] at hr
  have hv : valsR (bodyQ l) = [] := by unfold valsR; simp [ho]
  have hC : rbC (bodyQ l) = (a, true) := by
    unfold rbC
    rw [hB, hv, ho]
    show (a, true) = _
    rfl
  refine ⟨?_, by rw [hC]⟩
  unfold rbL rbD rbLong
  rw [hC, ho]
  simp only [reduceIte, Int.reduceEq, or_false, List.append_nil]
  have hr0 : r = [] := List.eq_nil_of_length_eq_zero hr
  rw [hl, hr0, List.append_nil]
theorem rb_10 (l : List UInt8) (h : Good l) (hop : (headR l).op = 10) : rbL (bodyQ l) = l ∧ (rbC (bodyQ l)).2 = true := by
  have hh := withR_head (headR l) (cutN (l.drop 13) (widths (headR l).op)) (if (headR l).op = 3 then l.drop 13 else [])
  have hB := rb_ahead h.len (bodyQ l) hh.op hh.tenant hh.user hh.secret hh.m
  have ho : (bodyQ l).op = 10 := by rw [bodyQ_op, hop]
  have hr : (l.drop 13).length = 0 := by
    have h1 := h.lo
    have h2 := h.hi (by rw [hop]; decide)
    have h3 : fieldsN 10 = 0 := rfl
    rw [hop, h3] at h1 h2
    rw [List.length_drop]
    omega
  have hz := show bodyQ l = withR (headR l) (cutN (l.drop 13) (widths (headR l).op)) (if (headR l).op = 3 then l.drop 13 else []) from rfl
  simp only [withR, hop, widths] at hz
  simp only [reduceIte, Int.reduceEq] at hz
  obtain ⟨a, ha⟩ : ∃ a, l.take 13 = a := ⟨_, rfl⟩
  obtain ⟨r, hrr⟩ : ∃ r, l.drop 13 = r := ⟨_, rfl⟩
  have hl : l = a ++ r := by rw [← ha, ← hrr, List.take_append_drop]
  rw [ha] at hB
  rw [hrr] at hr
  have hv : valsR (bodyQ l) = [] := by unfold valsR; simp [ho]
  have hC : rbC (bodyQ l) = (a, true) := by
    unfold rbC
    rw [hB, hv, ho]
    show (a, true) = _
    rfl
  refine ⟨?_, by rw [hC]⟩
  unfold rbL rbD rbLong
  rw [hC, ho]
  simp only [reduceIte, Int.reduceEq, or_false, List.append_nil]
  have hr0 : r = [] := List.eq_nil_of_length_eq_zero hr
  rw [hl, hr0, List.append_nil]
theorem rb_11 (l : List UInt8) (h : Good l) (hop : (headR l).op = 11) : rbL (bodyQ l) = l ∧ (rbC (bodyQ l)).2 = true := by
  have hh := withR_head (headR l) (cutN (l.drop 13) (widths (headR l).op)) (if (headR l).op = 3 then l.drop 13 else [])
  have hB := rb_ahead h.len (bodyQ l) hh.op hh.tenant hh.user hh.secret hh.m
  have ho : (bodyQ l).op = 11 := by rw [bodyQ_op, hop]
  have hr : (l.drop 13).length = 0 := by
    have h1 := h.lo
    have h2 := h.hi (by rw [hop]; decide)
    have h3 : fieldsN 11 = 0 := rfl
    rw [hop, h3] at h1 h2
    rw [List.length_drop]
    omega
  have hz := show bodyQ l = withR (headR l) (cutN (l.drop 13) (widths (headR l).op)) (if (headR l).op = 3 then l.drop 13 else []) from rfl
  simp only [withR, hop, widths] at hz
  simp only [reduceIte, Int.reduceEq] at hz
  obtain ⟨a, ha⟩ : ∃ a, l.take 13 = a := ⟨_, rfl⟩
  obtain ⟨r, hrr⟩ : ∃ r, l.drop 13 = r := ⟨_, rfl⟩
  have hl : l = a ++ r := by rw [← ha, ← hrr, List.take_append_drop]
  rw [ha] at hB
  rw [hrr] at hr
  have hv : valsR (bodyQ l) = [] := by unfold valsR; simp [ho]
  have hC : rbC (bodyQ l) = (a, true) := by
    unfold rbC
    rw [hB, hv, ho]
    show (a, true) = _
    rfl
  refine ⟨?_, by rw [hC]⟩
  unfold rbL rbD rbLong
  rw [hC, ho]
  simp only [reduceIte, Int.reduceEq, or_false, List.append_nil]
  have hr0 : r = [] := List.eq_nil_of_length_eq_zero hr
  rw [hl, hr0, List.append_nil]
theorem rb_12 (l : List UInt8) (h : Good l) (hop : (headR l).op = 12) : rbL (bodyQ l) = l ∧ (rbC (bodyQ l)).2 = true := by
  have hh := withR_head (headR l) (cutN (l.drop 13) (widths (headR l).op)) (if (headR l).op = 3 then l.drop 13 else [])
  have hB := rb_ahead h.len (bodyQ l) hh.op hh.tenant hh.user hh.secret hh.m
  have ho : (bodyQ l).op = 12 := by rw [bodyQ_op, hop]
  have hr : (l.drop 13).length = 0 := by
    have h1 := h.lo
    have h2 := h.hi (by rw [hop]; decide)
    have h3 : fieldsN 12 = 0 := rfl
    rw [hop, h3] at h1 h2
    rw [List.length_drop]
    omega
  have hz := show bodyQ l = withR (headR l) (cutN (l.drop 13) (widths (headR l).op)) (if (headR l).op = 3 then l.drop 13 else []) from rfl
  simp only [withR, hop, widths] at hz
  simp only [reduceIte, Int.reduceEq] at hz
  obtain ⟨a, ha⟩ : ∃ a, l.take 13 = a := ⟨_, rfl⟩
  obtain ⟨r, hrr⟩ : ∃ r, l.drop 13 = r := ⟨_, rfl⟩
  have hl : l = a ++ r := by rw [← ha, ← hrr, List.take_append_drop]
  rw [ha] at hB
  rw [hrr] at hr
  have hv : valsR (bodyQ l) = [] := by unfold valsR; simp [ho]
  have hC : rbC (bodyQ l) = (a, true) := by
    unfold rbC
    rw [hB, hv, ho]
    show (a, true) = _
    rfl
  refine ⟨?_, by rw [hC]⟩
  unfold rbL rbD rbLong
  rw [hC, ho]
  simp only [reduceIte, Int.reduceEq, or_false, List.append_nil]
  have hr0 : r = [] := List.eq_nil_of_length_eq_zero hr
  rw [hl, hr0, List.append_nil]
theorem rb_13 (l : List UInt8) (h : Good l) (hop : (headR l).op = 13) : rbL (bodyQ l) = l ∧ (rbC (bodyQ l)).2 = true := by
  have hh := withR_head (headR l) (cutN (l.drop 13) (widths (headR l).op)) (if (headR l).op = 3 then l.drop 13 else [])
  have hB := rb_ahead h.len (bodyQ l) hh.op hh.tenant hh.user hh.secret hh.m
  have ho : (bodyQ l).op = 13 := by rw [bodyQ_op, hop]
  have hr : (l.drop 13).length = 8 := by
    have h1 := h.lo
    have h2 := h.hi (by rw [hop]; decide)
    have h3 : fieldsN 13 = 8 := rfl
    rw [hop, h3] at h1 h2
    rw [List.length_drop]
    omega
  have hz := show bodyQ l = withR (headR l) (cutN (l.drop 13) (widths (headR l).op)) (if (headR l).op = 3 then l.drop 13 else []) from rfl
  simp only [withR, hop, widths] at hz
  simp only [reduceIte, Int.reduceEq] at hz
  obtain ⟨a, ha⟩ : ∃ a, l.take 13 = a := ⟨_, rfl⟩
  obtain ⟨r, hrr⟩ : ∃ r, l.drop 13 = r := ⟨_, rfl⟩
  have hl : l = a ++ r := by rw [← ha, ← hrr, List.take_append_drop]
  rw [ha] at hB
  rw [hrr] at hr hz
  have v0 : (bodyQ l).x0 = ((beNat (r.take 2) : Nat) : Int) := by rw [hz]; simp [cutN, List.drop_drop]
  have v1 : (bodyQ l).y0 = ((beNat ((r.drop 2).take 2) : Nat) : Int) := by rw [hz]; simp [cutN, List.drop_drop]
  have v2 : (bodyQ l).x1 = ((beNat ((r.drop 4).take 2) : Nat) : Int) := by rw [hz]; simp [cutN, List.drop_drop]
  have v3 : (bodyQ l).y1 = ((beNat ((r.drop 6).take 2) : Nat) : Int) := by rw [hz]; simp [cutN, List.drop_drop]
  have hv : valsR (bodyQ l) = [(bodyQ l).x0, (bodyQ l).y0, (bodyQ l).x1, (bodyQ l).y1] := by unfold valsR; simp [ho]
  have hC : rbC (bodyQ l) = (((((a ++ (r.take 2)) ++ ((r.drop 2).take 2)) ++ ((r.drop 4).take 2)) ++ ((r.drop 6).take 2)), true) := by
    unfold rbC
    rw [hB, hv, ho]
    show pF (pF (pF (pF ((a, true)) ((bodyQ l).x0, 2)) ((bodyQ l).y0, 2)) ((bodyQ l).x1, 2)) ((bodyQ l).y1, 2) = _
    rw [v0, pF_nat _ _ _ (be_take_lt _ _), toBE_take 2 r (by omega), v1, pF_nat _ _ _ (be_take_lt _ _), toBE_take 2 (r.drop 2) (by rw [List.length_drop]; omega), v2, pF_nat _ _ _ (be_take_lt _ _), toBE_take 2 (r.drop 4) (by rw [List.length_drop]; omega), v3, pF_nat _ _ _ (be_take_lt _ _), toBE_take 2 (r.drop 6) (by rw [List.length_drop]; omega)]
  refine ⟨?_, by rw [hC]⟩
  unfold rbL rbD rbLong
  rw [hC, ho]
  simp only [reduceIte, Int.reduceEq, or_false, List.append_nil]
  have hj : ((((r.take 2) ++ ((r.drop 2).take 2)) ++ ((r.drop 4).take 2)) ++ ((r.drop 6).take 2)) = r := by rw [← List.take_add, ← List.take_add, ← List.take_add, List.take_of_length_le (by omega)]
  have e := hl.trans (congrArg (a ++ ·) hj.symm)
  rw [e]
  try simp only [List.append_assoc]
theorem rb_14 (l : List UInt8) (h : Good l) (hop : (headR l).op = 14) : rbL (bodyQ l) = l ∧ (rbC (bodyQ l)).2 = true := by
  have hh := withR_head (headR l) (cutN (l.drop 13) (widths (headR l).op)) (if (headR l).op = 3 then l.drop 13 else [])
  have hB := rb_ahead h.len (bodyQ l) hh.op hh.tenant hh.user hh.secret hh.m
  have ho : (bodyQ l).op = 14 := by rw [bodyQ_op, hop]
  have hr : (l.drop 13).length = 4 := by
    have h1 := h.lo
    have h2 := h.hi (by rw [hop]; decide)
    have h3 : fieldsN 14 = 4 := rfl
    rw [hop, h3] at h1 h2
    rw [List.length_drop]
    omega
  have hz := show bodyQ l = withR (headR l) (cutN (l.drop 13) (widths (headR l).op)) (if (headR l).op = 3 then l.drop 13 else []) from rfl
  simp only [withR, hop, widths] at hz
  simp only [reduceIte, Int.reduceEq] at hz
  obtain ⟨a, ha⟩ : ∃ a, l.take 13 = a := ⟨_, rfl⟩
  obtain ⟨r, hrr⟩ : ∃ r, l.drop 13 = r := ⟨_, rfl⟩
  have hl : l = a ++ r := by rw [← ha, ← hrr, List.take_append_drop]
  rw [ha] at hB
  rw [hrr] at hr hz
  have v0 : (bodyQ l).ax = ((beNat (r.take 2) : Nat) : Int) := by rw [hz]; simp [cutN]
  have v1 : (bodyQ l).ay = ((beNat ((r.drop 2).take 2) : Nat) : Int) := by rw [hz]; simp [cutN]
  have hv : valsR (bodyQ l) = [(bodyQ l).ax, (bodyQ l).ay] := by unfold valsR; simp [ho]
  have hC : rbC (bodyQ l) = (((a ++ (r.take 2)) ++ ((r.drop 2).take 2)), true) := by
    unfold rbC
    rw [hB, hv, ho]
    show pF (pF ((a, true)) ((bodyQ l).ax, 2)) ((bodyQ l).ay, 2) = _
    rw [v0, pF_nat _ _ _ (be_take_lt _ _), toBE_take 2 r (by omega), v1, pF_nat _ _ _ (be_take_lt _ _), toBE_take 2 (r.drop 2) (by rw [List.length_drop]; omega)]
  refine ⟨?_, by rw [hC]⟩
  unfold rbL rbD rbLong
  rw [hC, ho]
  simp only [reduceIte, Int.reduceEq, or_false, List.append_nil]
  have hj : ((r.take 2) ++ ((r.drop 2).take 2)) = r := by rw [← List.take_add, List.take_of_length_le (by omega)]
  have e := hl.trans (congrArg (a ++ ·) hj.symm)
  rw [e]
  try simp only [List.append_assoc]
theorem rb_15 (l : List UInt8) (h : Good l) (hop : (headR l).op = 15) : rbL (bodyQ l) = l ∧ (rbC (bodyQ l)).2 = true := by
  have hh := withR_head (headR l) (cutN (l.drop 13) (widths (headR l).op)) (if (headR l).op = 3 then l.drop 13 else [])
  have hB := rb_ahead h.len (bodyQ l) hh.op hh.tenant hh.user hh.secret hh.m
  have ho : (bodyQ l).op = 15 := by rw [bodyQ_op, hop]
  have hr : (l.drop 13).length = 8 := by
    have h1 := h.lo
    have h2 := h.hi (by rw [hop]; decide)
    have h3 : fieldsN 15 = 8 := rfl
    rw [hop, h3] at h1 h2
    rw [List.length_drop]
    omega
  have hz := show bodyQ l = withR (headR l) (cutN (l.drop 13) (widths (headR l).op)) (if (headR l).op = 3 then l.drop 13 else []) from rfl
  simp only [withR, hop, widths] at hz
  simp only [reduceIte, Int.reduceEq] at hz
  obtain ⟨a, ha⟩ : ∃ a, l.take 13 = a := ⟨_, rfl⟩
  obtain ⟨r, hrr⟩ : ∃ r, l.drop 13 = r := ⟨_, rfl⟩
  have hl : l = a ++ r := by rw [← ha, ← hrr, List.take_append_drop]
  rw [ha] at hB
  rw [hrr] at hr hz
  have v0 : (bodyQ l).x0 = ((beNat (r.take 2) : Nat) : Int) := by rw [hz]; simp [cutN, List.drop_drop]
  have v1 : (bodyQ l).y0 = ((beNat ((r.drop 2).take 2) : Nat) : Int) := by rw [hz]; simp [cutN, List.drop_drop]
  have v2 : (bodyQ l).x1 = ((beNat ((r.drop 4).take 2) : Nat) : Int) := by rw [hz]; simp [cutN, List.drop_drop]
  have v3 : (bodyQ l).y1 = ((beNat ((r.drop 6).take 2) : Nat) : Int) := by rw [hz]; simp [cutN, List.drop_drop]
  have hv : valsR (bodyQ l) = [(bodyQ l).x0, (bodyQ l).y0, (bodyQ l).x1, (bodyQ l).y1] := by unfold valsR; simp [ho]
  have hC : rbC (bodyQ l) = (((((a ++ (r.take 2)) ++ ((r.drop 2).take 2)) ++ ((r.drop 4).take 2)) ++ ((r.drop 6).take 2)), true) := by
    unfold rbC
    rw [hB, hv, ho]
    show pF (pF (pF (pF ((a, true)) ((bodyQ l).x0, 2)) ((bodyQ l).y0, 2)) ((bodyQ l).x1, 2)) ((bodyQ l).y1, 2) = _
    rw [v0, pF_nat _ _ _ (be_take_lt _ _), toBE_take 2 r (by omega), v1, pF_nat _ _ _ (be_take_lt _ _), toBE_take 2 (r.drop 2) (by rw [List.length_drop]; omega), v2, pF_nat _ _ _ (be_take_lt _ _), toBE_take 2 (r.drop 4) (by rw [List.length_drop]; omega), v3, pF_nat _ _ _ (be_take_lt _ _), toBE_take 2 (r.drop 6) (by rw [List.length_drop]; omega)]
  refine ⟨?_, by rw [hC]⟩
  unfold rbL rbD rbLong
  rw [hC, ho]
  simp only [reduceIte, Int.reduceEq, or_false, List.append_nil]
  have hj : ((((r.take 2) ++ ((r.drop 2).take 2)) ++ ((r.drop 4).take 2)) ++ ((r.drop 6).take 2)) = r := by rw [← List.take_add, ← List.take_add, ← List.take_add, List.take_of_length_le (by omega)]
  have e := hl.trans (congrArg (a ++ ·) hj.symm)
  rw [e]
  try simp only [List.append_assoc]
theorem rb_16 (l : List UInt8) (h : Good l) (hop : (headR l).op = 16) : rbL (bodyQ l) = l ∧ (rbC (bodyQ l)).2 = true := by
  have hh := withR_head (headR l) (cutN (l.drop 13) (widths (headR l).op)) (if (headR l).op = 3 then l.drop 13 else [])
  have hB := rb_ahead h.len (bodyQ l) hh.op hh.tenant hh.user hh.secret hh.m
  have ho : (bodyQ l).op = 16 := by rw [bodyQ_op, hop]
  have hr : (l.drop 13).length = 4 := by
    have h1 := h.lo
    have h2 := h.hi (by rw [hop]; decide)
    have h3 : fieldsN 16 = 4 := rfl
    rw [hop, h3] at h1 h2
    rw [List.length_drop]
    omega
  have hz := show bodyQ l = withR (headR l) (cutN (l.drop 13) (widths (headR l).op)) (if (headR l).op = 3 then l.drop 13 else []) from rfl
  simp only [withR, hop, widths] at hz
  simp only [reduceIte, Int.reduceEq] at hz
  obtain ⟨a, ha⟩ : ∃ a, l.take 13 = a := ⟨_, rfl⟩
  obtain ⟨r, hrr⟩ : ∃ r, l.drop 13 = r := ⟨_, rfl⟩
  have hl : l = a ++ r := by rw [← ha, ← hrr, List.take_append_drop]
  rw [ha] at hB
  rw [hrr] at hr hz
  have v0 : (bodyQ l).ax = ((beNat (r.take 2) : Nat) : Int) := by rw [hz]; simp [cutN]
  have v1 : (bodyQ l).ay = ((beNat ((r.drop 2).take 2) : Nat) : Int) := by rw [hz]; simp [cutN]
  have hv : valsR (bodyQ l) = [(bodyQ l).ax, (bodyQ l).ay] := by unfold valsR; simp [ho]
  have hC : rbC (bodyQ l) = (((a ++ (r.take 2)) ++ ((r.drop 2).take 2)), true) := by
    unfold rbC
    rw [hB, hv, ho]
    show pF (pF ((a, true)) ((bodyQ l).ax, 2)) ((bodyQ l).ay, 2) = _
    rw [v0, pF_nat _ _ _ (be_take_lt _ _), toBE_take 2 r (by omega), v1, pF_nat _ _ _ (be_take_lt _ _), toBE_take 2 (r.drop 2) (by rw [List.length_drop]; omega)]
  refine ⟨?_, by rw [hC]⟩
  unfold rbL rbD rbLong
  rw [hC, ho]
  simp only [reduceIte, Int.reduceEq, or_false, List.append_nil]
  have hj : ((r.take 2) ++ ((r.drop 2).take 2)) = r := by rw [← List.take_add, List.take_of_length_le (by omega)]
  have e := hl.trans (congrArg (a ++ ·) hj.symm)
  rw [e]
  try simp only [List.append_assoc]
theorem rb_17 (l : List UInt8) (h : Good l) (hop : (headR l).op = 17) : rbL (bodyQ l) = l ∧ (rbC (bodyQ l)).2 = true := by
  have hh := withR_head (headR l) (cutN (l.drop 13) (widths (headR l).op)) (if (headR l).op = 3 then l.drop 13 else [])
  have hB := rb_ahead h.len (bodyQ l) hh.op hh.tenant hh.user hh.secret hh.m
  have ho : (bodyQ l).op = 17 := by rw [bodyQ_op, hop]
  have hr : (l.drop 13).length = 2 := by
    have h1 := h.lo
    have h2 := h.hi (by rw [hop]; decide)
    have h3 : fieldsN 17 = 2 := rfl
    rw [hop, h3] at h1 h2
    rw [List.length_drop]
    omega
  have hz := show bodyQ l = withR (headR l) (cutN (l.drop 13) (widths (headR l).op)) (if (headR l).op = 3 then l.drop 13 else []) from rfl
  simp only [withR, hop, widths] at hz
  simp only [reduceIte, Int.reduceEq] at hz
  obtain ⟨a, ha⟩ : ∃ a, l.take 13 = a := ⟨_, rfl⟩
  obtain ⟨r, hrr⟩ : ∃ r, l.drop 13 = r := ⟨_, rfl⟩
  have hl : l = a ++ r := by rw [← ha, ← hrr, List.take_append_drop]
  rw [ha] at hB
  rw [hrr] at hr hz
  have v0 : (bodyQ l).frm = ((beNat (r.take 2) : Nat) : Int) := by rw [hz]; simp [cutN]
  have hv : valsR (bodyQ l) = [(bodyQ l).frm] := by unfold valsR; simp [ho]
  have hC : rbC (bodyQ l) = ((a ++ (r.take 2)), true) := by
    unfold rbC
    rw [hB, hv, ho]
    show pF ((a, true)) ((bodyQ l).frm, 2) = _
    rw [v0, pF_nat _ _ _ (be_take_lt _ _), toBE_take 2 r (by omega)]
  refine ⟨?_, by rw [hC]⟩
  unfold rbL rbD rbLong
  rw [hC, ho]
  simp only [reduceIte, Int.reduceEq, or_false, List.append_nil]
  have hj : (r.take 2) = r := by rw [List.take_of_length_le (by omega)]
  have e := hl.trans (congrArg (a ++ ·) hj.symm)
  rw [e]
  try simp only [List.append_assoc]
theorem rb_18 (l : List UInt8) (h : Good l) (hop : (headR l).op = 18) : rbL (bodyQ l) = l ∧ (rbC (bodyQ l)).2 = true := by
  have hh := withR_head (headR l) (cutN (l.drop 13) (widths (headR l).op)) (if (headR l).op = 3 then l.drop 13 else [])
  have hB := rb_ahead h.len (bodyQ l) hh.op hh.tenant hh.user hh.secret hh.m
  have ho : (bodyQ l).op = 18 := by rw [bodyQ_op, hop]
  have hr : (l.drop 13).length = 0 := by
    have h1 := h.lo
    have h2 := h.hi (by rw [hop]; decide)
    have h3 : fieldsN 18 = 0 := rfl
    rw [hop, h3] at h1 h2
    rw [List.length_drop]
    omega
  have hz := show bodyQ l = withR (headR l) (cutN (l.drop 13) (widths (headR l).op)) (if (headR l).op = 3 then l.drop 13 else []) from rfl
  simp only [withR, hop, widths] at hz
  simp only [reduceIte, Int.reduceEq] at hz
  obtain ⟨a, ha⟩ : ∃ a, l.take 13 = a := ⟨_, rfl⟩
  obtain ⟨r, hrr⟩ : ∃ r, l.drop 13 = r := ⟨_, rfl⟩
  have hl : l = a ++ r := by rw [← ha, ← hrr, List.take_append_drop]
  rw [ha] at hB
  rw [hrr] at hr
  have hv : valsR (bodyQ l) = [] := by unfold valsR; simp [ho]
  have hC : rbC (bodyQ l) = (a, true) := by
    unfold rbC
    rw [hB, hv, ho]
    show (a, true) = _
    rfl
  refine ⟨?_, by rw [hC]⟩
  unfold rbL rbD rbLong
  rw [hC, ho]
  simp only [reduceIte, Int.reduceEq, or_false, List.append_nil]
  have hr0 : r = [] := List.eq_nil_of_length_eq_zero hr
  rw [hl, hr0, List.append_nil]
theorem rb_19 (l : List UInt8) (h : Good l) (hop : (headR l).op = 19) : rbL (bodyQ l) = l ∧ (rbC (bodyQ l)).2 = true := by
  have hh := withR_head (headR l) (cutN (l.drop 13) (widths (headR l).op)) (if (headR l).op = 3 then l.drop 13 else [])
  have hB := rb_ahead h.len (bodyQ l) hh.op hh.tenant hh.user hh.secret hh.m
  have ho : (bodyQ l).op = 19 := by rw [bodyQ_op, hop]
  have hr : (l.drop 13).length = 4 := by
    have h1 := h.lo
    have h2 := h.hi (by rw [hop]; decide)
    have h3 : fieldsN 19 = 4 := rfl
    rw [hop, h3] at h1 h2
    rw [List.length_drop]
    omega
  have hz := show bodyQ l = withR (headR l) (cutN (l.drop 13) (widths (headR l).op)) (if (headR l).op = 3 then l.drop 13 else []) from rfl
  simp only [withR, hop, widths] at hz
  simp only [reduceIte, Int.reduceEq] at hz
  obtain ⟨a, ha⟩ : ∃ a, l.take 13 = a := ⟨_, rfl⟩
  obtain ⟨r, hrr⟩ : ∃ r, l.drop 13 = r := ⟨_, rfl⟩
  have hl : l = a ++ r := by rw [← ha, ← hrr, List.take_append_drop]
  rw [ha] at hB
  rw [hrr] at hr hz
  have v0 : (bodyQ l).whom = ((beNat (r.take 2) : Nat) : Int) := by rw [hz]; simp [cutN]
  have v1 : (bodyQ l).quota = ((beNat ((r.drop 2).take 2) : Nat) : Int) := by rw [hz]; simp [cutN]
  have hv : valsR (bodyQ l) = [(bodyQ l).whom, (bodyQ l).quota] := by unfold valsR; simp [ho]
  have hC : rbC (bodyQ l) = (((a ++ (r.take 2)) ++ ((r.drop 2).take 2)), true) := by
    unfold rbC
    rw [hB, hv, ho]
    show pF (pF ((a, true)) ((bodyQ l).whom, 2)) ((bodyQ l).quota, 2) = _
    rw [v0, pF_nat _ _ _ (be_take_lt _ _), toBE_take 2 r (by omega), v1, pF_nat _ _ _ (be_take_lt _ _), toBE_take 2 (r.drop 2) (by rw [List.length_drop]; omega)]
  refine ⟨?_, by rw [hC]⟩
  unfold rbL rbD rbLong
  rw [hC, ho]
  simp only [reduceIte, Int.reduceEq, or_false, List.append_nil]
  have hj : ((r.take 2) ++ ((r.drop 2).take 2)) = r := by rw [← List.take_add, List.take_of_length_le (by omega)]
  have e := hl.trans (congrArg (a ++ ·) hj.symm)
  rw [e]
  try simp only [List.append_assoc]
theorem good_rb {l : List UInt8} (h : Good l) : rbL (bodyQ l) = l ∧ (rbC (bodyQ l)).2 = true := by
  rcases isOp_cases h.op with e | e | e | e | e | e | e | e | e | e | e | e | e | e | e | e | e | e | e
  · exact rb_1 l h e
  · exact rb_2 l h e
  · exact rb_3 l h e
  · exact rb_4 l h e
  · exact rb_5 l h e
  · exact rb_6 l h e
  · exact rb_7 l h e
  · exact rb_8 l h e
  · exact rb_9 l h e
  · exact rb_10 l h e
  · exact rb_11 l h e
  · exact rb_12 l h e
  · exact rb_13 l h e
  · exact rb_14 l h e
  · exact rb_15 l h e
  · exact rb_16 l h e
  · exact rb_17 l h e
  · exact rb_18 l h e
  · exact rb_19 l h e
theorem enc_rb (q : Req) : encOk q = rbOk q ∧ (encOk q = true → encL q = rbL q) := by
  have h1 : encOk q = true → rbOk q = true ∧ encL q = rbL q := fun h => by
    obtain ⟨hg, hq⟩ := enc_good h
    obtain ⟨h2, h3⟩ := good_rb hg
    rw [← hq] at h2 h3
    have hd : rdec (encL q) = (q, 0) := (rdec_iff _ _).2 ⟨hg, hq⟩
    refine ⟨?_, h2.symm⟩
    unfold rbOk
    rw [h2, hd, h3]
    have ho : isOp q.op = true := by rw [hq, bodyQ_op]; exact hg.op
    have hm : q.m ≤ 64 := by
      have hh := (withR_head (headR (encL q)) (cutN ((encL q).drop 13) (widths (headR (encL q)).op)) (if (headR (encL q)).op = 3 then (encL q).drop 13 else [])).m
      have := hg.m
      rw [hq]
      exact hh ▸ this
    have ht : q.txt.length ≤ 512 := by
      have hx : (if (headR (encL q)).op = 3 then (encL q).drop 13 else []).length ≤ 512 := by
        split
        · rw [List.length_drop]; exact hg.top
        · simp
      have := withR_txt (q := headR (encL q)) (l := cutN ((encL q).drop 13) (widths (headR (encL q)).op)) (by simp [headR, zeroR]) hx
      rw [hq]
      exact this
    rw [ho, decide_eq_true hm, decide_eq_true ht]
    simp [reqEq]
  have h2 : rbOk q = true → encOk q = true := fun h => by
    unfold rbOk reqEq at h
    simp only [Bool.and_eq_true, decide_eq_true_eq] at h
    obtain ⟨-, -, -, -, e1, e2⟩ := h
    have hd : rdec (rbL q) = (q, 0) := Prod.ext e1 e2
    obtain ⟨hg, hq⟩ := (rdec_iff _ _).1 hd
    have := (good_encE hg).1
    rw [← hq] at this
    exact this
  refine ⟨?_, fun h => (h1 h).2⟩
  cases ha : encOk q with
  | true => exact (h1 ha).1.symm
  | false =>
    cases hb : rbOk q with
    | true => rw [h2 hb] at ha; cases ha
    | false => rfl
end Go.Proofs.YtldjgpnbkbmgoaaGreatDoor

namespace Go.Proofs.YtldjgpnbkbmgoaaGreatDoor
open Go.RowKit Go.Lib
attribute [local go_sem ↓] load_req stop_req
structure HRw where
  x : HIt
  A : Option Addr
  cap : Nat
def hiC (r : HRw) : List Value := [.int .i64 r.x.kind, .int .i64 r.x.conn, .slice r.A r.x.bs.length r.cap, .int .u64 r.x.draw, .int .i64 r.x.n] ++ (rqC r.x.q).toList
def hiA (r : HRw) : Array Value := (hiC r).toArray
theorem hiC_len (r : HRw) : (hiC r).length = 29 := rfl
theorem rqC_one (q : Req) : ∀ u ∈ (rqC q).toList, u.oneCell' = true := fun u hu => Array.all_eq_true_iff_forall_mem.1 (rq_one q) u (by simpa using hu)
theorem hi_enc : EncOk hiC 29 := ⟨hiC_len, fun r u hu => by
  unfold hiC at hu
  rw [List.mem_append] at hu
  rcases hu with hu | hu
  · simp only [List.mem_cons, List.not_mem_nil, or_false] at hu
    rcases hu with rfl | rfl | rfl | rfl | rfl <;> rfl
  · exact rqC_one r.x.q u hu⟩
theorem hiA_size (r : HRw) : (hiA r).size = 29 := rfl
theorem hiA_one (r : HRw) : (hiA r).all (·.oneCell') = true := all_oneCell_toArray (hi_enc.one r)
theorem hit_size (r : HRw) : (Tryz.prog.info? 62).map (·.size) = some (hiA r).size := by
  rw [hiA_size]; kernel_rfl
theorem rhit_size (r : HRw) : (Tryz.prog.info? 75).map (·.size) = some (hiA r).size := by
  rw [hiA_size]; kernel_rfl
abbrev zeroHi : Array Value := #[.int .i64 0, .int .i64 0, .slice none 0 0, .int .u64 0, .int .i64 0, .int .i64 0, .int .i64 0, .int .i64 0, .int .u64 0, .int .i64 0, .int .i64 0, .int .i64 0, .int .i64 0, .int .i64 0, .string ⟨#[]⟩, .int .i64 0, .int .i64 0, .int .i64 0, .int .i64 0, .int .i64 0, .int .i64 0, .int .i64 0, .int .u64 0, .int .i64 0, .int .u64 0, .int .i64 0, .int .i64 0, .int .i64 0, .int .i64 0]
theorem load_arr {P : Program} {ops : Array Oper} {rest : List Oper} {op : Oper} {a : Act} {w : World} {Q : Exit → Act → World → Prop} (hgd : op.guard = none) (ty : TypeId) (x : Operand) (ho : op.op = .load ty x)
    (b o : Nat) (hx : a.eval x = .pointer (some ⟨b, o, none⟩)) (cs : Array Value) (d : TypeDesc) (hc : Lay w b o cs.toList)
    (hu : P.underlying ty = some d) (hd : d.isRow = true) (hi : (P.info? ty).map (·.size) = some cs.size)
    (h : wpList P ops Q rest (a.put op.dst (.agg cs)) w) : wpList P ops Q (op :: rest) a w :=
  wpList_load_mid hgd ty x ho b o hx cs.toList d hc hu hd (by simpa using hi) (by simpa using h)
structure HOk (w : World) (r : HRw) : Prop where
  sl : Sl byC w w.heap.size (.slice r.A r.x.bs.length r.cap) r.x.bs
  q : r.x.q.fits
  ib : r.x.q.ib
  dr : r.x.fits
theorem HOk.below {w w' : World} {r : HRw} (h : HOk w r) (hb : Below w.heap.size w w') : HOk w' r := ⟨(h.sl.below hb).more hb.size, h.q, h.ib, h.dr⟩
theorem HOk.drewN {w : World} {r : HRw} (h : HOk w r) (n : Nat) : HOk (w.drewN n) r := ⟨h.sl.drewN n, h.q, h.ib, h.dr⟩
structure HBx (T : TypeId) (w wx : World) (g : Nat) (r : HRw) : Prop where
  b0 : Blk wx g T (hiA r)
  bel : Below w.heap.size w wx
theorem HBx.below {T : TypeId} {w wx wy : World} {g : Nat} {r : HRw} (h : HBx T w wx g r) (hb : Below wx.heap.size wx wy) : HBx T w wy g r := ⟨h.b0.below hb h.b0.lt, h.bel.trans (hb.mono h.bel.size)⟩
theorem HBx.drew {T : TypeId} {w wx : World} {g : Nat} {r : HRw} (h : HBx T w wx g r) : HBx T w wx.drew g r := ⟨h.b0, below_drew h.bel⟩
theorem HBx.drewN {T : TypeId} {w wx : World} {g : Nat} {r : HRw} (h : HBx T w wx g r) (n : Nat) : HBx T w (wx.drewN n) g r := ⟨h.b0.drewN n, below_drewN h.bel n⟩
theorem HBx.new (T : TypeId) (w : World) (r : HRw) : HBx T w (w.alloc (.cells (hiA r) T)) w.heap.size r := ⟨Blk.new w T _, (Below.refl _ _).alloc (Nat.le_refl _) _⟩
theorem HBx.kind {T : TypeId} {w wx : World} {g : Nat} {r : HRw} (h : HBx T w wx g r) : wx.cell? ⟨g, 0, none⟩ = some (.int .i64 r.x.kind) := h.b0.is 0 rfl
theorem HBx.conn {T : TypeId} {w wx : World} {g : Nat} {r : HRw} (h : HBx T w wx g r) : wx.cell? ⟨g, 1, none⟩ = some (.int .i64 r.x.conn) := h.b0.is 1 rfl
theorem HBx.bs {T : TypeId} {w wx : World} {g : Nat} {r : HRw} (h : HBx T w wx g r) : wx.cell? ⟨g, 2, none⟩ = some (.slice r.A r.x.bs.length r.cap) := h.b0.is 2 rfl
theorem HBx.draw {T : TypeId} {w wx : World} {g : Nat} {r : HRw} (h : HBx T w wx g r) : wx.cell? ⟨g, 3, none⟩ = some (.int .u64 (r.x.draw : Nat)) := h.b0.is 3 rfl
theorem HBx.n {T : TypeId} {w wx : World} {g : Nat} {r : HRw} (h : HBx T w wx g r) : wx.cell? ⟨g, 4, none⟩ = some (.int .i64 r.x.n) := h.b0.is 4 rfl
theorem HBx.q {T : TypeId} {w wx : World} {g : Nat} {r : HRw} (h : HBx T w wx g r) : Lay wx g 5 (rqC r.x.q).toList := by
  have h1 : Lay wx g 0 (hiC r) := h.b0.lay
  have h2 := h1.drop 5
  rwa [Nat.zero_add] at h2
theorem HBx.all {T : TypeId} {w wx : World} {g : Nat} {r : HRw} (h : HBx T w wx g r) : Lay wx g 0 (hiA r).toList := h.b0.lay
end Go.Proofs.YtldjgpnbkbmgoaaGreatDoor

