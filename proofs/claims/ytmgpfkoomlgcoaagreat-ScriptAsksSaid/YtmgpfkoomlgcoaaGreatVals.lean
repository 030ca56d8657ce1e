/-
  The reference's Values, an operation each. Conditions: as each states.
  PRINTED BY genvals.py.
-/
import Derived.Test.YtmgpfkoomlgcoaaGreatPut
import Derived.Deep.DeepCutAuto
namespace Go.Proofs.YtmgpfkoomlgcoaaGreat
open Go.RowKit Go.Lib
attribute [local go_sem ↓] load_req stop_req

def izC (x : Int) : List Value := [.int .i64 x]
theorem izC_len (x : Int) : (izC x).length = 1 := rfl
theorem Lay.iz {w : World} {b off : Nat} {x : Int} (h : Lay w b off (izC x)) : w.cell? ⟨b, off, none⟩ = some (.int .i64 x) := h 0 _ rfl
/-- The numbers of an operation's fields, those of eight bytes as such. -/
def valsR (q : Req) : List Int :=
  if q.op = 1 then [q.whom, q.role, q.tier, q.quota] else
  if q.op = 2 then [q.whom] else
  if q.op = 4 then [q.whom, q.rights, q.til] else
  if q.op = 5 then [q.rights, q.zoom, q.x0, q.y0, q.x1, q.y1, q.til] else
  if q.op = 7 then [q.pk] else
  if q.op = 8 then [q.ax, q.ay, q.label] else
  if q.op = 13 then [q.x0, q.y0, q.x1, q.y1] else
  if q.op = 14 then [q.ax, q.ay] else
  if q.op = 15 then [q.x0, q.y0, q.x1, q.y1] else
  if q.op = 16 then [q.ax, q.ay] else
  if q.op = 17 then [q.frm] else
  if q.op = 19 then [q.whom, q.quota] else
  []
/-- A slice in a block of its own, made since block B. -/
structure SlN {α : Type} (enc : α → List Value) (w : World) (B : Nat) (v : Value) (l : List α) : Prop where
  ex : ∃ g, v = .slice (some ⟨g, 0, none⟩) l.length l.length ∧ B ≤ g ∧ g < w.heap.size ∧ Lay w g 0 (l.flatMap enc)
def VPost (w : World) (l : List Int) (e : Ending) (w' : World) : Prop := ∃ v, e = .returned v ∧ SlN izC w' w.heap.size v l ∧ Below w.heap.size w w'

set_option maxRecDepth 100000 in
set_option maxHeartbeats 2000000 in
theorem vals_1 (q : Req) (hop : q.op = 1) (w : World) : Calls Tryz.prog 185 #[.agg (rqC q)] w (VPost w [q.whom, q.role, q.tier, q.quota]) := by
  have hb1 := Blk.new w 49 (rqC q)
  have hW1 := (Below.refl w.heap.size w).alloc (Nat.le_refl _) (.cells (rqC q) 49)
  have hz1 : (w.alloc (.cells (rqC q) 49)).heap.size = w.heap.size + 1 := by simp
  obtain ⟨w1, hst1⟩ : ∃ w1, w.alloc (.cells (rqC q) 49) = w1 := ⟨_, rfl⟩
  rw [hst1] at hb1 hW1 hz1
  have hbx := Blk.new w1 43 #[.int .i64 q.x0, .int .i64 q.y0, .int .i64 q.x1, .int .i64 q.y1]
  rw [hz1] at hbx
  have hb2 := hb1.alloc (.cells #[.int .i64 q.x0, .int .i64 q.y0, .int .i64 q.x1, .int .i64 q.y1] 43)
  have hW2 := hW1.alloc (by omega) (.cells #[.int .i64 q.x0, .int .i64 q.y0, .int .i64 q.x1, .int .i64 q.y1] 43)
  have x0 : w1.cell? ⟨w.heap.size, 12, none⟩ = some (.int .i64 q.x0) := hb1.is 12 rfl
  have x1 : w1.cell? ⟨w.heap.size, 13, none⟩ = some (.int .i64 q.y0) := hb1.is 13 rfl
  have x2 : w1.cell? ⟨w.heap.size, 14, none⟩ = some (.int .i64 q.x1) := hb1.is 14 rfl
  have x3 : w1.cell? ⟨w.heap.size, 15, none⟩ = some (.int .i64 q.y1) := hb1.is 15 rfl
  have hz2 : (w1.alloc (.cells #[.int .i64 q.x0, .int .i64 q.y0, .int .i64 q.x1, .int .i64 q.y1] 43)).heap.size = w.heap.size + 1 + 1 := by simp [hz1]
  obtain ⟨w2, hst2⟩ : ∃ w2, w1.alloc (.cells #[.int .i64 q.x0, .int .i64 q.y0, .int .i64 q.x1, .int .i64 q.y1] 43) = w2 := ⟨_, rfl⟩
  rw [hst2] at hb2 hbx hW2 hz2
  have c0 : w2.cell? ⟨w.heap.size, 0, none⟩ = some (.int .i64 1) := by rw [← hop]; exact hb2.is 0 rfl
  have c5 : w2.cell? ⟨w.heap.size, 5, none⟩ = some (.int .i64 q.whom) := hb2.is 5 rfl
  have c6 : w2.cell? ⟨w.heap.size, 6, none⟩ = some (.int .i64 q.role) := hb2.is 6 rfl
  have c7 : w2.cell? ⟨w.heap.size, 7, none⟩ = some (.int .i64 q.tier) := hb2.is 7 rfl
  have c8 : w2.cell? ⟨w.heap.size, 8, none⟩ = some (.int .i64 q.quota) := hb2.is 8 rfl
  have HW2 := Lib.hid hW2
  have HN := Lib.hid (Blk.new w2 3 #[.int .i64 q.whom, .int .i64 q.role, .int .i64 q.tier, .int .i64 q.quota])
  rw [hz2] at HN
  clear hb1 hW1 hb2 hW2 hbx hop
  go_enter Tryz.func185, Tryz.ntmps185
  go_wp2_with fail
  go_ret
  exact ⟨_, rfl, ⟨_, rfl, by omega, HN.out.lt, by have := HN.out.lay; exact this⟩, HW2.out.alloc HW2.out.size _⟩

set_option maxRecDepth 100000 in
set_option maxHeartbeats 2000000 in
theorem vals_2 (q : Req) (hop : q.op = 2) (w : World) : Calls Tryz.prog 185 #[.agg (rqC q)] w (VPost w [q.whom]) := by
  have hb1 := Blk.new w 49 (rqC q)
  have hW1 := (Below.refl w.heap.size w).alloc (Nat.le_refl _) (.cells (rqC q) 49)
  have hz1 : (w.alloc (.cells (rqC q) 49)).heap.size = w.heap.size + 1 := by simp
  obtain ⟨w1, hst1⟩ : ∃ w1, w.alloc (.cells (rqC q) 49) = w1 := ⟨_, rfl⟩
  rw [hst1] at hb1 hW1 hz1
  have hbx := Blk.new w1 43 #[.int .i64 q.x0, .int .i64 q.y0, .int .i64 q.x1, .int .i64 q.y1]
  rw [hz1] at hbx
  have hb2 := hb1.alloc (.cells #[.int .i64 q.x0, .int .i64 q.y0, .int .i64 q.x1, .int .i64 q.y1] 43)
  have hW2 := hW1.alloc (by omega) (.cells #[.int .i64 q.x0, .int .i64 q.y0, .int .i64 q.x1, .int .i64 q.y1] 43)
  have x0 : w1.cell? ⟨w.heap.size, 12, none⟩ = some (.int .i64 q.x0) := hb1.is 12 rfl
  have x1 : w1.cell? ⟨w.heap.size, 13, none⟩ = some (.int .i64 q.y0) := hb1.is 13 rfl
  have x2 : w1.cell? ⟨w.heap.size, 14, none⟩ = some (.int .i64 q.x1) := hb1.is 14 rfl
  have x3 : w1.cell? ⟨w.heap.size, 15, none⟩ = some (.int .i64 q.y1) := hb1.is 15 rfl
  have hz2 : (w1.alloc (.cells #[.int .i64 q.x0, .int .i64 q.y0, .int .i64 q.x1, .int .i64 q.y1] 43)).heap.size = w.heap.size + 1 + 1 := by simp [hz1]
  obtain ⟨w2, hst2⟩ : ∃ w2, w1.alloc (.cells #[.int .i64 q.x0, .int .i64 q.y0, .int .i64 q.x1, .int .i64 q.y1] 43) = w2 := ⟨_, rfl⟩
  rw [hst2] at hb2 hbx hW2 hz2
  have c0 : w2.cell? ⟨w.heap.size, 0, none⟩ = some (.int .i64 2) := by rw [← hop]; exact hb2.is 0 rfl
  have c5 : w2.cell? ⟨w.heap.size, 5, none⟩ = some (.int .i64 q.whom) := hb2.is 5 rfl
  have HW2 := Lib.hid hW2
  have HN := Lib.hid (Blk.new w2 3 #[.int .i64 q.whom])
  rw [hz2] at HN
  clear hb1 hW1 hb2 hW2 hbx hop
  go_enter Tryz.func185, Tryz.ntmps185
  go_wp2_with fail
  go_ret
  exact ⟨_, rfl, ⟨_, rfl, by omega, HN.out.lt, by have := HN.out.lay; exact this⟩, HW2.out.alloc HW2.out.size _⟩

set_option maxRecDepth 100000 in
set_option maxHeartbeats 2000000 in
theorem vals_3 (q : Req) (hop : q.op = 3) (w : World) : Calls Tryz.prog 185 #[.agg (rqC q)] w (VPost w []) := by
  have hb1 := Blk.new w 49 (rqC q)
  have hW1 := (Below.refl w.heap.size w).alloc (Nat.le_refl _) (.cells (rqC q) 49)
  have hz1 : (w.alloc (.cells (rqC q) 49)).heap.size = w.heap.size + 1 := by simp
  obtain ⟨w1, hst1⟩ : ∃ w1, w.alloc (.cells (rqC q) 49) = w1 := ⟨_, rfl⟩
  rw [hst1] at hb1 hW1 hz1
  have hbx := Blk.new w1 43 #[.int .i64 q.x0, .int .i64 q.y0, .int .i64 q.x1, .int .i64 q.y1]
  rw [hz1] at hbx
  have hb2 := hb1.alloc (.cells #[.int .i64 q.x0, .int .i64 q.y0, .int .i64 q.x1, .int .i64 q.y1] 43)
  have hW2 := hW1.alloc (by omega) (.cells #[.int .i64 q.x0, .int .i64 q.y0, .int .i64 q.x1, .int .i64 q.y1] 43)
  have x0 : w1.cell? ⟨w.heap.size, 12, none⟩ = some (.int .i64 q.x0) := hb1.is 12 rfl
  have x1 : w1.cell? ⟨w.heap.size, 13, none⟩ = some (.int .i64 q.y0) := hb1.is 13 rfl
  have x2 : w1.cell? ⟨w.heap.size, 14, none⟩ = some (.int .i64 q.x1) := hb1.is 14 rfl
  have x3 : w1.cell? ⟨w.heap.size, 15, none⟩ = some (.int .i64 q.y1) := hb1.is 15 rfl
  have hz2 : (w1.alloc (.cells #[.int .i64 q.x0, .int .i64 q.y0, .int .i64 q.x1, .int .i64 q.y1] 43)).heap.size = w.heap.size + 1 + 1 := by simp [hz1]
  obtain ⟨w2, hst2⟩ : ∃ w2, w1.alloc (.cells #[.int .i64 q.x0, .int .i64 q.y0, .int .i64 q.x1, .int .i64 q.y1] 43) = w2 := ⟨_, rfl⟩
  rw [hst2] at hb2 hbx hW2 hz2
  have c0 : w2.cell? ⟨w.heap.size, 0, none⟩ = some (.int .i64 3) := by rw [← hop]; exact hb2.is 0 rfl
  have HW2 := Lib.hid hW2
  have HN := Lib.hid (Blk.new w2 3 #[])
  rw [hz2] at HN
  clear hb1 hW1 hb2 hW2 hbx hop
  go_enter Tryz.func185, Tryz.ntmps185
  go_wp2_with fail
  go_ret
  exact ⟨_, rfl, ⟨_, rfl, by omega, HN.out.lt, by have := HN.out.lay; exact this⟩, HW2.out.alloc HW2.out.size _⟩

set_option maxRecDepth 100000 in
set_option maxHeartbeats 2000000 in
theorem vals_4 (q : Req) (hop : q.op = 4) (w : World) : Calls Tryz.prog 185 #[.agg (rqC q)] w (VPost w [q.whom, q.rights, q.til]) := by
  have hb1 := Blk.new w 49 (rqC q)
  have hW1 := (Below.refl w.heap.size w).alloc (Nat.le_refl _) (.cells (rqC q) 49)
  have hz1 : (w.alloc (.cells (rqC q) 49)).heap.size = w.heap.size + 1 := by simp
  obtain ⟨w1, hst1⟩ : ∃ w1, w.alloc (.cells (rqC q) 49) = w1 := ⟨_, rfl⟩
  rw [hst1] at hb1 hW1 hz1
  have hbx := Blk.new w1 43 #[.int .i64 q.x0, .int .i64 q.y0, .int .i64 q.x1, .int .i64 q.y1]
  rw [hz1] at hbx
  have hb2 := hb1.alloc (.cells #[.int .i64 q.x0, .int .i64 q.y0, .int .i64 q.x1, .int .i64 q.y1] 43)
  have hW2 := hW1.alloc (by omega) (.cells #[.int .i64 q.x0, .int .i64 q.y0, .int .i64 q.x1, .int .i64 q.y1] 43)
  have x0 : w1.cell? ⟨w.heap.size, 12, none⟩ = some (.int .i64 q.x0) := hb1.is 12 rfl
  have x1 : w1.cell? ⟨w.heap.size, 13, none⟩ = some (.int .i64 q.y0) := hb1.is 13 rfl
  have x2 : w1.cell? ⟨w.heap.size, 14, none⟩ = some (.int .i64 q.x1) := hb1.is 14 rfl
  have x3 : w1.cell? ⟨w.heap.size, 15, none⟩ = some (.int .i64 q.y1) := hb1.is 15 rfl
  have hz2 : (w1.alloc (.cells #[.int .i64 q.x0, .int .i64 q.y0, .int .i64 q.x1, .int .i64 q.y1] 43)).heap.size = w.heap.size + 1 + 1 := by simp [hz1]
  obtain ⟨w2, hst2⟩ : ∃ w2, w1.alloc (.cells #[.int .i64 q.x0, .int .i64 q.y0, .int .i64 q.x1, .int .i64 q.y1] 43) = w2 := ⟨_, rfl⟩
  rw [hst2] at hb2 hbx hW2 hz2
  have c0 : w2.cell? ⟨w.heap.size, 0, none⟩ = some (.int .i64 4) := by rw [← hop]; exact hb2.is 0 rfl
  have c5 : w2.cell? ⟨w.heap.size, 5, none⟩ = some (.int .i64 q.whom) := hb2.is 5 rfl
  have c10 : w2.cell? ⟨w.heap.size, 10, none⟩ = some (.int .i64 q.rights) := hb2.is 10 rfl
  have c16 : w2.cell? ⟨w.heap.size, 16, none⟩ = some (.int .i64 q.til) := hb2.is 16 rfl
  have HW2 := Lib.hid hW2
  have HN := Lib.hid (Blk.new w2 3 #[.int .i64 q.whom, .int .i64 q.rights, .int .i64 q.til])
  rw [hz2] at HN
  clear hb1 hW1 hb2 hW2 hbx hop
  go_enter Tryz.func185, Tryz.ntmps185
  go_wp2_with fail
  go_ret
  exact ⟨_, rfl, ⟨_, rfl, by omega, HN.out.lt, by have := HN.out.lay; exact this⟩, HW2.out.alloc HW2.out.size _⟩

set_option maxRecDepth 100000 in
set_option maxHeartbeats 2000000 in
theorem vals_5 (q : Req) (hop : q.op = 5) (w : World) : Calls Tryz.prog 185 #[.agg (rqC q)] w (VPost w [q.rights, q.zoom, q.x0, q.y0, q.x1, q.y1, q.til]) := by
  have hb1 := Blk.new w 49 (rqC q)
  have hW1 := (Below.refl w.heap.size w).alloc (Nat.le_refl _) (.cells (rqC q) 49)
  have hz1 : (w.alloc (.cells (rqC q) 49)).heap.size = w.heap.size + 1 := by simp
  obtain ⟨w1, hst1⟩ : ∃ w1, w.alloc (.cells (rqC q) 49) = w1 := ⟨_, rfl⟩
  rw [hst1] at hb1 hW1 hz1
  have hbx := Blk.new w1 43 #[.int .i64 q.x0, .int .i64 q.y0, .int .i64 q.x1, .int .i64 q.y1]
  rw [hz1] at hbx
  have hb2 := hb1.alloc (.cells #[.int .i64 q.x0, .int .i64 q.y0, .int .i64 q.x1, .int .i64 q.y1] 43)
  have hW2 := hW1.alloc (by omega) (.cells #[.int .i64 q.x0, .int .i64 q.y0, .int .i64 q.x1, .int .i64 q.y1] 43)
  have x0 : w1.cell? ⟨w.heap.size, 12, none⟩ = some (.int .i64 q.x0) := hb1.is 12 rfl
  have x1 : w1.cell? ⟨w.heap.size, 13, none⟩ = some (.int .i64 q.y0) := hb1.is 13 rfl
  have x2 : w1.cell? ⟨w.heap.size, 14, none⟩ = some (.int .i64 q.x1) := hb1.is 14 rfl
  have x3 : w1.cell? ⟨w.heap.size, 15, none⟩ = some (.int .i64 q.y1) := hb1.is 15 rfl
  have hz2 : (w1.alloc (.cells #[.int .i64 q.x0, .int .i64 q.y0, .int .i64 q.x1, .int .i64 q.y1] 43)).heap.size = w.heap.size + 1 + 1 := by simp [hz1]
  obtain ⟨w2, hst2⟩ : ∃ w2, w1.alloc (.cells #[.int .i64 q.x0, .int .i64 q.y0, .int .i64 q.x1, .int .i64 q.y1] 43) = w2 := ⟨_, rfl⟩
  rw [hst2] at hb2 hbx hW2 hz2
  have c0 : w2.cell? ⟨w.heap.size, 0, none⟩ = some (.int .i64 5) := by rw [← hop]; exact hb2.is 0 rfl
  have c10 : w2.cell? ⟨w.heap.size, 10, none⟩ = some (.int .i64 q.rights) := hb2.is 10 rfl
  have c11 : w2.cell? ⟨w.heap.size, 11, none⟩ = some (.int .i64 q.zoom) := hb2.is 11 rfl
  have b0 : w2.cell? ⟨w.heap.size + 1, 0, none⟩ = some (.int .i64 q.x0) := hbx.is 0 rfl
  have b1 : w2.cell? ⟨w.heap.size + 1, 1, none⟩ = some (.int .i64 q.y0) := hbx.is 1 rfl
  have b2 : w2.cell? ⟨w.heap.size + 1, 2, none⟩ = some (.int .i64 q.x1) := hbx.is 2 rfl
  have b3 : w2.cell? ⟨w.heap.size + 1, 3, none⟩ = some (.int .i64 q.y1) := hbx.is 3 rfl
  have c16 : w2.cell? ⟨w.heap.size, 16, none⟩ = some (.int .i64 q.til) := hb2.is 16 rfl
  have HW2 := Lib.hid hW2
  have HN := Lib.hid (Blk.new w2 3 #[.int .i64 q.rights, .int .i64 q.zoom, .int .i64 q.x0, .int .i64 q.y0, .int .i64 q.x1, .int .i64 q.y1, .int .i64 q.til])
  rw [hz2] at HN
  clear hb1 hW1 hb2 hW2 hbx hop
  go_enter Tryz.func185, Tryz.ntmps185
  go_wp2_with fail
  go_ret
  exact ⟨_, rfl, ⟨_, rfl, by omega, HN.out.lt, by have := HN.out.lay; exact this⟩, HW2.out.alloc HW2.out.size _⟩

set_option maxRecDepth 100000 in
set_option maxHeartbeats 2000000 in
theorem vals_6 (q : Req) (hop : q.op = 6) (w : World) : Calls Tryz.prog 185 #[.agg (rqC q)] w (VPost w []) := by
  have hb1 := Blk.new w 49 (rqC q)
  have hW1 := (Below.refl w.heap.size w).alloc (Nat.le_refl _) (.cells (rqC q) 49)
  have hz1 : (w.alloc (.cells (rqC q) 49)).heap.size = w.heap.size + 1 := by simp
  obtain ⟨w1, hst1⟩ : ∃ w1, w.alloc (.cells (rqC q) 49) = w1 := ⟨_, rfl⟩
  rw [hst1] at hb1 hW1 hz1
  have hbx := Blk.new w1 43 #[.int .i64 q.x0, .int .i64 q.y0, .int .i64 q.x1, .int .i64 q.y1]
  rw [hz1] at hbx
  have hb2 := hb1.alloc (.cells #[.int .i64 q.x0, .int .i64 q.y0, .int .i64 q.x1, .int .i64 q.y1] 43)
  have hW2 := hW1.alloc (by omega) (.cells #[.int .i64 q.x0, .int .i64 q.y0, .int .i64 q.x1, .int .i64 q.y1] 43)
  have x0 : w1.cell? ⟨w.heap.size, 12, none⟩ = some (.int .i64 q.x0) := hb1.is 12 rfl
  have x1 : w1.cell? ⟨w.heap.size, 13, none⟩ = some (.int .i64 q.y0) := hb1.is 13 rfl
  have x2 : w1.cell? ⟨w.heap.size, 14, none⟩ = some (.int .i64 q.x1) := hb1.is 14 rfl
  have x3 : w1.cell? ⟨w.heap.size, 15, none⟩ = some (.int .i64 q.y1) := hb1.is 15 rfl
  have hz2 : (w1.alloc (.cells #[.int .i64 q.x0, .int .i64 q.y0, .int .i64 q.x1, .int .i64 q.y1] 43)).heap.size = w.heap.size + 1 + 1 := by simp [hz1]
  obtain ⟨w2, hst2⟩ : ∃ w2, w1.alloc (.cells #[.int .i64 q.x0, .int .i64 q.y0, .int .i64 q.x1, .int .i64 q.y1] 43) = w2 := ⟨_, rfl⟩
  rw [hst2] at hb2 hbx hW2 hz2
  have c0 : w2.cell? ⟨w.heap.size, 0, none⟩ = some (.int .i64 6) := by rw [← hop]; exact hb2.is 0 rfl
  have HW2 := Lib.hid hW2
  have HN := Lib.hid (Blk.new w2 3 #[])
  rw [hz2] at HN
  clear hb1 hW1 hb2 hW2 hbx hop
  go_enter Tryz.func185, Tryz.ntmps185
  go_wp2_with fail
  go_ret
  exact ⟨_, rfl, ⟨_, rfl, by omega, HN.out.lt, by have := HN.out.lay; exact this⟩, HW2.out.alloc HW2.out.size _⟩

set_option maxRecDepth 100000 in
set_option maxHeartbeats 2000000 in
theorem vals_7 (q : Req) (hop : q.op = 7) (w : World) : Calls Tryz.prog 185 #[.agg (rqC q)] w (VPost w [q.pk]) := by
  have hb1 := Blk.new w 49 (rqC q)
  have hW1 := (Below.refl w.heap.size w).alloc (Nat.le_refl _) (.cells (rqC q) 49)
  have hz1 : (w.alloc (.cells (rqC q) 49)).heap.size = w.heap.size + 1 := by simp
  obtain ⟨w1, hst1⟩ : ∃ w1, w.alloc (.cells (rqC q) 49) = w1 := ⟨_, rfl⟩
  rw [hst1] at hb1 hW1 hz1
  have hbx := Blk.new w1 43 #[.int .i64 q.x0, .int .i64 q.y0, .int .i64 q.x1, .int .i64 q.y1]
  rw [hz1] at hbx
  have hb2 := hb1.alloc (.cells #[.int .i64 q.x0, .int .i64 q.y0, .int .i64 q.x1, .int .i64 q.y1] 43)
  have hW2 := hW1.alloc (by omega) (.cells #[.int .i64 q.x0, .int .i64 q.y0, .int .i64 q.x1, .int .i64 q.y1] 43)
  have x0 : w1.cell? ⟨w.heap.size, 12, none⟩ = some (.int .i64 q.x0) := hb1.is 12 rfl
  have x1 : w1.cell? ⟨w.heap.size, 13, none⟩ = some (.int .i64 q.y0) := hb1.is 13 rfl
  have x2 : w1.cell? ⟨w.heap.size, 14, none⟩ = some (.int .i64 q.x1) := hb1.is 14 rfl
  have x3 : w1.cell? ⟨w.heap.size, 15, none⟩ = some (.int .i64 q.y1) := hb1.is 15 rfl
  have hz2 : (w1.alloc (.cells #[.int .i64 q.x0, .int .i64 q.y0, .int .i64 q.x1, .int .i64 q.y1] 43)).heap.size = w.heap.size + 1 + 1 := by simp [hz1]
  obtain ⟨w2, hst2⟩ : ∃ w2, w1.alloc (.cells #[.int .i64 q.x0, .int .i64 q.y0, .int .i64 q.x1, .int .i64 q.y1] 43) = w2 := ⟨_, rfl⟩
  rw [hst2] at hb2 hbx hW2 hz2
  have c0 : w2.cell? ⟨w.heap.size, 0, none⟩ = some (.int .i64 7) := by rw [← hop]; exact hb2.is 0 rfl
  have c18 : w2.cell? ⟨w.heap.size, 18, none⟩ = some (.int .i64 q.pk) := hb2.is 18 rfl
  have HW2 := Lib.hid hW2
  have HN := Lib.hid (Blk.new w2 3 #[.int .i64 q.pk])
  rw [hz2] at HN
  clear hb1 hW1 hb2 hW2 hbx hop
  go_enter Tryz.func185, Tryz.ntmps185
  go_wp2_with fail
  go_ret
  exact ⟨_, rfl, ⟨_, rfl, by omega, HN.out.lt, by have := HN.out.lay; exact this⟩, HW2.out.alloc HW2.out.size _⟩

set_option maxRecDepth 100000 in
set_option maxHeartbeats 2000000 in
theorem vals_8 (q : Req) (hop : q.op = 8) (w : World) : Calls Tryz.prog 185 #[.agg (rqC q)] w (VPost w [q.ax, q.ay, q.label]) := by
  have hb1 := Blk.new w 49 (rqC q)
  have hW1 := (Below.refl w.heap.size w).alloc (Nat.le_refl _) (.cells (rqC q) 49)
  have hz1 : (w.alloc (.cells (rqC q) 49)).heap.size = w.heap.size + 1 := by simp
  obtain ⟨w1, hst1⟩ : ∃ w1, w.alloc (.cells (rqC q) 49) = w1 := ⟨_, rfl⟩
  rw [hst1] at hb1 hW1 hz1
  have hbx := Blk.new w1 43 #[.int .i64 q.x0, .int .i64 q.y0, .int .i64 q.x1, .int .i64 q.y1]
  rw [hz1] at hbx
  have hb2 := hb1.alloc (.cells #[.int .i64 q.x0, .int .i64 q.y0, .int .i64 q.x1, .int .i64 q.y1] 43)
  have hW2 := hW1.alloc (by omega) (.cells #[.int .i64 q.x0, .int .i64 q.y0, .int .i64 q.x1, .int .i64 q.y1] 43)
  have x0 : w1.cell? ⟨w.heap.size, 12, none⟩ = some (.int .i64 q.x0) := hb1.is 12 rfl
  have x1 : w1.cell? ⟨w.heap.size, 13, none⟩ = some (.int .i64 q.y0) := hb1.is 13 rfl
  have x2 : w1.cell? ⟨w.heap.size, 14, none⟩ = some (.int .i64 q.x1) := hb1.is 14 rfl
  have x3 : w1.cell? ⟨w.heap.size, 15, none⟩ = some (.int .i64 q.y1) := hb1.is 15 rfl
  have hz2 : (w1.alloc (.cells #[.int .i64 q.x0, .int .i64 q.y0, .int .i64 q.x1, .int .i64 q.y1] 43)).heap.size = w.heap.size + 1 + 1 := by simp [hz1]
  obtain ⟨w2, hst2⟩ : ∃ w2, w1.alloc (.cells #[.int .i64 q.x0, .int .i64 q.y0, .int .i64 q.x1, .int .i64 q.y1] 43) = w2 := ⟨_, rfl⟩
  rw [hst2] at hb2 hbx hW2 hz2
  have c0 : w2.cell? ⟨w.heap.size, 0, none⟩ = some (.int .i64 8) := by rw [← hop]; exact hb2.is 0 rfl
  have c20 : w2.cell? ⟨w.heap.size, 20, none⟩ = some (.int .i64 q.ax) := hb2.is 20 rfl
  have c21 : w2.cell? ⟨w.heap.size, 21, none⟩ = some (.int .i64 q.ay) := hb2.is 21 rfl
  have c22 : w2.cell? ⟨w.heap.size, 22, none⟩ = some (.int .i64 q.label) := hb2.is 22 rfl
  have HW2 := Lib.hid hW2
  have HN := Lib.hid (Blk.new w2 3 #[.int .i64 q.ax, .int .i64 q.ay, .int .i64 q.label])
  rw [hz2] at HN
  clear hb1 hW1 hb2 hW2 hbx hop
  go_enter Tryz.func185, Tryz.ntmps185
  go_wp2_with fail
  go_ret
  exact ⟨_, rfl, ⟨_, rfl, by omega, HN.out.lt, by have := HN.out.lay; exact this⟩, HW2.out.alloc HW2.out.size _⟩

set_option maxRecDepth 100000 in
set_option maxHeartbeats 2000000 in
theorem vals_9 (q : Req) (hop : q.op = 9) (w : World) : Calls Tryz.prog 185 #[.agg (rqC q)] w (VPost w []) := by
  have hb1 := Blk.new w 49 (rqC q)
  have hW1 := (Below.refl w.heap.size w).alloc (Nat.le_refl _) (.cells (rqC q) 49)
  have hz1 : (w.alloc (.cells (rqC q) 49)).heap.size = w.heap.size + 1 := by simp
  obtain ⟨w1, hst1⟩ : ∃ w1, w.alloc (.cells (rqC q) 49) = w1 := ⟨_, rfl⟩
  rw [hst1] at hb1 hW1 hz1
  have hbx := Blk.new w1 43 #[.int .i64 q.x0, .int .i64 q.y0, .int .i64 q.x1, .int .i64 q.y1]
  rw [hz1] at hbx
  have hb2 := hb1.alloc (.cells #[.int .i64 q.x0, .int .i64 q.y0, .int .i64 q.x1, .int .i64 q.y1] 43)
  have hW2 := hW1.alloc (by omega) (.cells #[.int .i64 q.x0, .int .i64 q.y0, .int .i64 q.x1, .int .i64 q.y1] 43)
  have x0 : w1.cell? ⟨w.heap.size, 12, none⟩ = some (.int .i64 q.x0) := hb1.is 12 rfl
  have x1 : w1.cell? ⟨w.heap.size, 13, none⟩ = some (.int .i64 q.y0) := hb1.is 13 rfl
  have x2 : w1.cell? ⟨w.heap.size, 14, none⟩ = some (.int .i64 q.x1) := hb1.is 14 rfl
  have x3 : w1.cell? ⟨w.heap.size, 15, none⟩ = some (.int .i64 q.y1) := hb1.is 15 rfl
  have hz2 : (w1.alloc (.cells #[.int .i64 q.x0, .int .i64 q.y0, .int .i64 q.x1, .int .i64 q.y1] 43)).heap.size = w.heap.size + 1 + 1 := by simp [hz1]
  obtain ⟨w2, hst2⟩ : ∃ w2, w1.alloc (.cells #[.int .i64 q.x0, .int .i64 q.y0, .int .i64 q.x1, .int .i64 q.y1] 43) = w2 := ⟨_, rfl⟩
  rw [hst2] at hb2 hbx hW2 hz2
  have c0 : w2.cell? ⟨w.heap.size, 0, none⟩ = some (.int .i64 9) := by rw [← hop]; exact hb2.is 0 rfl
  have HW2 := Lib.hid hW2
  have HN := Lib.hid (Blk.new w2 3 #[])
  rw [hz2] at HN
  clear hb1 hW1 hb2 hW2 hbx hop
  go_enter Tryz.func185, Tryz.ntmps185
  go_wp2_with fail
  go_ret
  exact ⟨_, rfl, ⟨_, rfl, by omega, HN.out.lt, by have := HN.out.lay; exact this⟩, HW2.out.alloc HW2.out.size _⟩

set_option maxRecDepth 100000 in
set_option maxHeartbeats 2000000 in
theorem vals_10 (q : Req) (hop : q.op = 10) (w : World) : Calls Tryz.prog 185 #[.agg (rqC q)] w (VPost w []) := by
  have hb1 := Blk.new w 49 (rqC q)
  have hW1 := (Below.refl w.heap.size w).alloc (Nat.le_refl _) (.cells (rqC q) 49)
  have hz1 : (w.alloc (.cells (rqC q) 49)).heap.size = w.heap.size + 1 := by simp
  obtain ⟨w1, hst1⟩ : ∃ w1, w.alloc (.cells (rqC q) 49) = w1 := ⟨_, rfl⟩
  rw [hst1] at hb1 hW1 hz1
  have hbx := Blk.new w1 43 #[.int .i64 q.x0, .int .i64 q.y0, .int .i64 q.x1, .int .i64 q.y1]
  rw [hz1] at hbx
  have hb2 := hb1.alloc (.cells #[.int .i64 q.x0, .int .i64 q.y0, .int .i64 q.x1, .int .i64 q.y1] 43)
  have hW2 := hW1.alloc (by omega) (.cells #[.int .i64 q.x0, .int .i64 q.y0, .int .i64 q.x1, .int .i64 q.y1] 43)
  have x0 : w1.cell? ⟨w.heap.size, 12, none⟩ = some (.int .i64 q.x0) := hb1.is 12 rfl
  have x1 : w1.cell? ⟨w.heap.size, 13, none⟩ = some (.int .i64 q.y0) := hb1.is 13 rfl
  have x2 : w1.cell? ⟨w.heap.size, 14, none⟩ = some (.int .i64 q.x1) := hb1.is 14 rfl
  have x3 : w1.cell? ⟨w.heap.size, 15, none⟩ = some (.int .i64 q.y1) := hb1.is 15 rfl
  have hz2 : (w1.alloc (.cells #[.int .i64 q.x0, .int .i64 q.y0, .int .i64 q.x1, .int .i64 q.y1] 43)).heap.size = w.heap.size + 1 + 1 := by simp [hz1]
  obtain ⟨w2, hst2⟩ : ∃ w2, w1.alloc (.cells #[.int .i64 q.x0, .int .i64 q.y0, .int .i64 q.x1, .int .i64 q.y1] 43) = w2 := ⟨_, rfl⟩
  rw [hst2] at hb2 hbx hW2 hz2
  have c0 : w2.cell? ⟨w.heap.size, 0, none⟩ = some (.int .i64 10) := by rw [← hop]; exact hb2.is 0 rfl
  have HW2 := Lib.hid hW2
  have HN := Lib.hid (Blk.new w2 3 #[])
  rw [hz2] at HN
  clear hb1 hW1 hb2 hW2 hbx hop
  go_enter Tryz.func185, Tryz.ntmps185
  go_wp2_with fail
  go_ret
  exact ⟨_, rfl, ⟨_, rfl, by omega, HN.out.lt, by have := HN.out.lay; exact this⟩, HW2.out.alloc HW2.out.size _⟩

set_option maxRecDepth 100000 in
set_option maxHeartbeats 2000000 in
theorem vals_11 (q : Req) (hop : q.op = 11) (w : World) : Calls Tryz.prog 185 #[.agg (rqC q)] w (VPost w []) := by
  have hb1 := Blk.new w 49 (rqC q)
  have hW1 := (Below.refl w.heap.size w).alloc (Nat.le_refl _) (.cells (rqC q) 49)
  have hz1 : (w.alloc (.cells (rqC q) 49)).heap.size = w.heap.size + 1 := by simp
  obtain ⟨w1, hst1⟩ : ∃ w1, w.alloc (.cells (rqC q) 49) = w1 := ⟨_, rfl⟩
  rw [hst1] at hb1 hW1 hz1
  have hbx := Blk.new w1 43 #[.int .i64 q.x0, .int .i64 q.y0, .int .i64 q.x1, .int .i64 q.y1]
  rw [hz1] at hbx
  have hb2 := hb1.alloc (.cells #[.int .i64 q.x0, .int .i64 q.y0, .int .i64 q.x1, .int .i64 q.y1] 43)
  have hW2 := hW1.alloc (by omega) (.cells #[.int .i64 q.x0, .int .i64 q.y0, .int .i64 q.x1, .int .i64 q.y1] 43)
  have x0 : w1.cell? ⟨w.heap.size, 12, none⟩ = some (.int .i64 q.x0) := hb1.is 12 rfl
  have x1 : w1.cell? ⟨w.heap.size, 13, none⟩ = some (.int .i64 q.y0) := hb1.is 13 rfl
  have x2 : w1.cell? ⟨w.heap.size, 14, none⟩ = some (.int .i64 q.x1) := hb1.is 14 rfl
  have x3 : w1.cell? ⟨w.heap.size, 15, none⟩ = some (.int .i64 q.y1) := hb1.is 15 rfl
  have hz2 : (w1.alloc (.cells #[.int .i64 q.x0, .int .i64 q.y0, .int .i64 q.x1, .int .i64 q.y1] 43)).heap.size = w.heap.size + 1 + 1 := by simp [hz1]
  obtain ⟨w2, hst2⟩ : ∃ w2, w1.alloc (.cells #[.int .i64 q.x0, .int .i64 q.y0, .int .i64 q.x1, .int .i64 q.y1] 43) = w2 := ⟨_, rfl⟩
  rw [hst2] at hb2 hbx hW2 hz2
  have c0 : w2.cell? ⟨w.heap.size, 0, none⟩ = some (.int .i64 11) := by rw [← hop]; exact hb2.is 0 rfl
  have HW2 := Lib.hid hW2
  have HN := Lib.hid (Blk.new w2 3 #[])
  rw [hz2] at HN
  clear hb1 hW1 hb2 hW2 hbx hop
  go_enter Tryz.func185, Tryz.ntmps185
  go_wp2_with fail
  go_ret
  exact ⟨_, rfl, ⟨_, rfl, by omega, HN.out.lt, by have := HN.out.lay; exact this⟩, HW2.out.alloc HW2.out.size _⟩

set_option maxRecDepth 100000 in
set_option maxHeartbeats 2000000 in
theorem vals_12 (q : Req) (hop : q.op = 12) (w : World) : Calls Tryz.prog 185 #[.agg (rqC q)] w (VPost w []) := by
  have hb1 := Blk.new w 49 (rqC q)
  have hW1 := (Below.refl w.heap.size w).alloc (Nat.le_refl _) (.cells (rqC q) 49)
  have hz1 : (w.alloc (.cells (rqC q) 49)).heap.size = w.heap.size + 1 := by simp
  obtain ⟨w1, hst1⟩ : ∃ w1, w.alloc (.cells (rqC q) 49) = w1 := ⟨_, rfl⟩
  rw [hst1] at hb1 hW1 hz1
  have hbx := Blk.new w1 43 #[.int .i64 q.x0, .int .i64 q.y0, .int .i64 q.x1, .int .i64 q.y1]
  rw [hz1] at hbx
  have hb2 := hb1.alloc (.cells #[.int .i64 q.x0, .int .i64 q.y0, .int .i64 q.x1, .int .i64 q.y1] 43)
  have hW2 := hW1.alloc (by omega) (.cells #[.int .i64 q.x0, .int .i64 q.y0, .int .i64 q.x1, .int .i64 q.y1] 43)
  have x0 : w1.cell? ⟨w.heap.size, 12, none⟩ = some (.int .i64 q.x0) := hb1.is 12 rfl
  have x1 : w1.cell? ⟨w.heap.size, 13, none⟩ = some (.int .i64 q.y0) := hb1.is 13 rfl
  have x2 : w1.cell? ⟨w.heap.size, 14, none⟩ = some (.int .i64 q.x1) := hb1.is 14 rfl
  have x3 : w1.cell? ⟨w.heap.size, 15, none⟩ = some (.int .i64 q.y1) := hb1.is 15 rfl
  have hz2 : (w1.alloc (.cells #[.int .i64 q.x0, .int .i64 q.y0, .int .i64 q.x1, .int .i64 q.y1] 43)).heap.size = w.heap.size + 1 + 1 := by simp [hz1]
  obtain ⟨w2, hst2⟩ : ∃ w2, w1.alloc (.cells #[.int .i64 q.x0, .int .i64 q.y0, .int .i64 q.x1, .int .i64 q.y1] 43) = w2 := ⟨_, rfl⟩
  rw [hst2] at hb2 hbx hW2 hz2
  have c0 : w2.cell? ⟨w.heap.size, 0, none⟩ = some (.int .i64 12) := by rw [← hop]; exact hb2.is 0 rfl
  have HW2 := Lib.hid hW2
  have HN := Lib.hid (Blk.new w2 3 #[])
  rw [hz2] at HN
  clear hb1 hW1 hb2 hW2 hbx hop
  go_enter Tryz.func185, Tryz.ntmps185
  go_wp2_with fail
  go_ret
  exact ⟨_, rfl, ⟨_, rfl, by omega, HN.out.lt, by have := HN.out.lay; exact this⟩, HW2.out.alloc HW2.out.size _⟩

set_option maxRecDepth 100000 in
set_option maxHeartbeats 2000000 in
theorem vals_13 (q : Req) (hop : q.op = 13) (w : World) : Calls Tryz.prog 185 #[.agg (rqC q)] w (VPost w [q.x0, q.y0, q.x1, q.y1]) := by
  have hb1 := Blk.new w 49 (rqC q)
  have hW1 := (Below.refl w.heap.size w).alloc (Nat.le_refl _) (.cells (rqC q) 49)
  have hz1 : (w.alloc (.cells (rqC q) 49)).heap.size = w.heap.size + 1 := by simp
  obtain ⟨w1, hst1⟩ : ∃ w1, w.alloc (.cells (rqC q) 49) = w1 := ⟨_, rfl⟩
  rw [hst1] at hb1 hW1 hz1
  have hbx := Blk.new w1 43 #[.int .i64 q.x0, .int .i64 q.y0, .int .i64 q.x1, .int .i64 q.y1]
  rw [hz1] at hbx
  have hb2 := hb1.alloc (.cells #[.int .i64 q.x0, .int .i64 q.y0, .int .i64 q.x1, .int .i64 q.y1] 43)
  have hW2 := hW1.alloc (by omega) (.cells #[.int .i64 q.x0, .int .i64 q.y0, .int .i64 q.x1, .int .i64 q.y1] 43)
  have x0 : w1.cell? ⟨w.heap.size, 12, none⟩ = some (.int .i64 q.x0) := hb1.is 12 rfl
  have x1 : w1.cell? ⟨w.heap.size, 13, none⟩ = some (.int .i64 q.y0) := hb1.is 13 rfl
  have x2 : w1.cell? ⟨w.heap.size, 14, none⟩ = some (.int .i64 q.x1) := hb1.is 14 rfl
  have x3 : w1.cell? ⟨w.heap.size, 15, none⟩ = some (.int .i64 q.y1) := hb1.is 15 rfl
  have hz2 : (w1.alloc (.cells #[.int .i64 q.x0, .int .i64 q.y0, .int .i64 q.x1, .int .i64 q.y1] 43)).heap.size = w.heap.size + 1 + 1 := by simp [hz1]
  obtain ⟨w2, hst2⟩ : ∃ w2, w1.alloc (.cells #[.int .i64 q.x0, .int .i64 q.y0, .int .i64 q.x1, .int .i64 q.y1] 43) = w2 := ⟨_, rfl⟩
  rw [hst2] at hb2 hbx hW2 hz2
  have c0 : w2.cell? ⟨w.heap.size, 0, none⟩ = some (.int .i64 13) := by rw [← hop]; exact hb2.is 0 rfl
  have b0 : w2.cell? ⟨w.heap.size + 1, 0, none⟩ = some (.int .i64 q.x0) := hbx.is 0 rfl
  have b1 : w2.cell? ⟨w.heap.size + 1, 1, none⟩ = some (.int .i64 q.y0) := hbx.is 1 rfl
  have b2 : w2.cell? ⟨w.heap.size + 1, 2, none⟩ = some (.int .i64 q.x1) := hbx.is 2 rfl
  have b3 : w2.cell? ⟨w.heap.size + 1, 3, none⟩ = some (.int .i64 q.y1) := hbx.is 3 rfl
  have HW2 := Lib.hid hW2
  have HN := Lib.hid (Blk.new w2 3 #[.int .i64 q.x0, .int .i64 q.y0, .int .i64 q.x1, .int .i64 q.y1])
  rw [hz2] at HN
  clear hb1 hW1 hb2 hW2 hbx hop
  go_enter Tryz.func185, Tryz.ntmps185
  go_wp2_with fail
  go_ret
  exact ⟨_, rfl, ⟨_, rfl, by omega, HN.out.lt, by have := HN.out.lay; exact this⟩, HW2.out.alloc HW2.out.size _⟩

set_option maxRecDepth 100000 in
set_option maxHeartbeats 2000000 in
theorem vals_14 (q : Req) (hop : q.op = 14) (w : World) : Calls Tryz.prog 185 #[.agg (rqC q)] w (VPost w [q.ax, q.ay]) := by
  have hb1 := Blk.new w 49 (rqC q)
  have hW1 := (Below.refl w.heap.size w).alloc (Nat.le_refl _) (.cells (rqC q) 49)
  have hz1 : (w.alloc (.cells (rqC q) 49)).heap.size = w.heap.size + 1 := by simp
  obtain ⟨w1, hst1⟩ : ∃ w1, w.alloc (.cells (rqC q) 49) = w1 := ⟨_, rfl⟩
  rw [hst1] at hb1 hW1 hz1
  have hbx := Blk.new w1 43 #[.int .i64 q.x0, .int .i64 q.y0, .int .i64 q.x1, .int .i64 q.y1]
  rw [hz1] at hbx
  have hb2 := hb1.alloc (.cells #[.int .i64 q.x0, .int .i64 q.y0, .int .i64 q.x1, .int .i64 q.y1] 43)
  have hW2 := hW1.alloc (by omega) (.cells #[.int .i64 q.x0, .int .i64 q.y0, .int .i64 q.x1, .int .i64 q.y1] 43)
  have x0 : w1.cell? ⟨w.heap.size, 12, none⟩ = some (.int .i64 q.x0) := hb1.is 12 rfl
  have x1 : w1.cell? ⟨w.heap.size, 13, none⟩ = some (.int .i64 q.y0) := hb1.is 13 rfl
  have x2 : w1.cell? ⟨w.heap.size, 14, none⟩ = some (.int .i64 q.x1) := hb1.is 14 rfl
  have x3 : w1.cell? ⟨w.heap.size, 15, none⟩ = some (.int .i64 q.y1) := hb1.is 15 rfl
  have hz2 : (w1.alloc (.cells #[.int .i64 q.x0, .int .i64 q.y0, .int .i64 q.x1, .int .i64 q.y1] 43)).heap.size = w.heap.size + 1 + 1 := by simp [hz1]
  obtain ⟨w2, hst2⟩ : ∃ w2, w1.alloc (.cells #[.int .i64 q.x0, .int .i64 q.y0, .int .i64 q.x1, .int .i64 q.y1] 43) = w2 := ⟨_, rfl⟩
  rw [hst2] at hb2 hbx hW2 hz2
  have c0 : w2.cell? ⟨w.heap.size, 0, none⟩ = some (.int .i64 14) := by rw [← hop]; exact hb2.is 0 rfl
  have c20 : w2.cell? ⟨w.heap.size, 20, none⟩ = some (.int .i64 q.ax) := hb2.is 20 rfl
  have c21 : w2.cell? ⟨w.heap.size, 21, none⟩ = some (.int .i64 q.ay) := hb2.is 21 rfl
  have HW2 := Lib.hid hW2
  have HN := Lib.hid (Blk.new w2 3 #[.int .i64 q.ax, .int .i64 q.ay])
  rw [hz2] at HN
  clear hb1 hW1 hb2 hW2 hbx hop
  go_enter Tryz.func185, Tryz.ntmps185
  go_wp2_with fail
  go_ret
  exact ⟨_, rfl, ⟨_, rfl, by omega, HN.out.lt, by have := HN.out.lay; exact this⟩, HW2.out.alloc HW2.out.size _⟩

set_option maxRecDepth 100000 in
set_option maxHeartbeats 2000000 in
theorem vals_15 (q : Req) (hop : q.op = 15) (w : World) : Calls Tryz.prog 185 #[.agg (rqC q)] w (VPost w [q.x0, q.y0, q.x1, q.y1]) := by
  have hb1 := Blk.new w 49 (rqC q)
  have hW1 := (Below.refl w.heap.size w).alloc (Nat.le_refl _) (.cells (rqC q) 49)
  have hz1 : (w.alloc (.cells (rqC q) 49)).heap.size = w.heap.size + 1 := by simp
  obtain ⟨w1, hst1⟩ : ∃ w1, w.alloc (.cells (rqC q) 49) = w1 := ⟨_, rfl⟩
  rw [hst1] at hb1 hW1 hz1
  have hbx := Blk.new w1 43 #[.int .i64 q.x0, .int .i64 q.y0, .int .i64 q.x1, .int .i64 q.y1]
  rw [hz1] at hbx
  have hb2 := hb1.alloc (.cells #[.int .i64 q.x0, .int .i64 q.y0, .int .i64 q.x1, .int .i64 q.y1] 43)
  have hW2 := hW1.alloc (by omega) (.cells #[.int .i64 q.x0, .int .i64 q.y0, .int .i64 q.x1, .int .i64 q.y1] 43)
  have x0 : w1.cell? ⟨w.heap.size, 12, none⟩ = some (.int .i64 q.x0) := hb1.is 12 rfl
  have x1 : w1.cell? ⟨w.heap.size, 13, none⟩ = some (.int .i64 q.y0) := hb1.is 13 rfl
  have x2 : w1.cell? ⟨w.heap.size, 14, none⟩ = some (.int .i64 q.x1) := hb1.is 14 rfl
  have x3 : w1.cell? ⟨w.heap.size, 15, none⟩ = some (.int .i64 q.y1) := hb1.is 15 rfl
  have hz2 : (w1.alloc (.cells #[.int .i64 q.x0, .int .i64 q.y0, .int .i64 q.x1, .int .i64 q.y1] 43)).heap.size = w.heap.size + 1 + 1 := by simp [hz1]
  obtain ⟨w2, hst2⟩ : ∃ w2, w1.alloc (.cells #[.int .i64 q.x0, .int .i64 q.y0, .int .i64 q.x1, .int .i64 q.y1] 43) = w2 := ⟨_, rfl⟩
  rw [hst2] at hb2 hbx hW2 hz2
  have c0 : w2.cell? ⟨w.heap.size, 0, none⟩ = some (.int .i64 15) := by rw [← hop]; exact hb2.is 0 rfl
  have b0 : w2.cell? ⟨w.heap.size + 1, 0, none⟩ = some (.int .i64 q.x0) := hbx.is 0 rfl
  have b1 : w2.cell? ⟨w.heap.size + 1, 1, none⟩ = some (.int .i64 q.y0) := hbx.is 1 rfl
  have b2 : w2.cell? ⟨w.heap.size + 1, 2, none⟩ = some (.int .i64 q.x1) := hbx.is 2 rfl
  have b3 : w2.cell? ⟨w.heap.size + 1, 3, none⟩ = some (.int .i64 q.y1) := hbx.is 3 rfl
  have HW2 := Lib.hid hW2
  have HN := Lib.hid (Blk.new w2 3 #[.int .i64 q.x0, .int .i64 q.y0, .int .i64 q.x1, .int .i64 q.y1])
  rw [hz2] at HN
  clear hb1 hW1 hb2 hW2 hbx hop
  go_enter Tryz.func185, Tryz.ntmps185
  go_wp2_with fail
  go_ret
  exact ⟨_, rfl, ⟨_, rfl, by omega, HN.out.lt, by have := HN.out.lay; exact this⟩, HW2.out.alloc HW2.out.size _⟩

set_option maxRecDepth 100000 in
set_option maxHeartbeats 2000000 in
theorem vals_16 (q : Req) (hop : q.op = 16) (w : World) : Calls Tryz.prog 185 #[.agg (rqC q)] w (VPost w [q.ax, q.ay]) := by
  have hb1 := Blk.new w 49 (rqC q)
  have hW1 := (Below.refl w.heap.size w).alloc (Nat.le_refl _) (.cells (rqC q) 49)
  have hz1 : (w.alloc (.cells (rqC q) 49)).heap.size = w.heap.size + 1 := by simp
  obtain ⟨w1, hst1⟩ : ∃ w1, w.alloc (.cells (rqC q) 49) = w1 := ⟨_, rfl⟩
  rw [hst1] at hb1 hW1 hz1
  have hbx := Blk.new w1 43 #[.int .i64 q.x0, .int .i64 q.y0, .int .i64 q.x1, .int .i64 q.y1]
  rw [hz1] at hbx
  have hb2 := hb1.alloc (.cells #[.int .i64 q.x0, .int .i64 q.y0, .int .i64 q.x1, .int .i64 q.y1] 43)
  have hW2 := hW1.alloc (by omega) (.cells #[.int .i64 q.x0, .int .i64 q.y0, .int .i64 q.x1, .int .i64 q.y1] 43)
  have x0 : w1.cell? ⟨w.heap.size, 12, none⟩ = some (.int .i64 q.x0) := hb1.is 12 rfl
  have x1 : w1.cell? ⟨w.heap.size, 13, none⟩ = some (.int .i64 q.y0) := hb1.is 13 rfl
  have x2 : w1.cell? ⟨w.heap.size, 14, none⟩ = some (.int .i64 q.x1) := hb1.is 14 rfl
  have x3 : w1.cell? ⟨w.heap.size, 15, none⟩ = some (.int .i64 q.y1) := hb1.is 15 rfl
  have hz2 : (w1.alloc (.cells #[.int .i64 q.x0, .int .i64 q.y0, .int .i64 q.x1, .int .i64 q.y1] 43)).heap.size = w.heap.size + 1 + 1 := by simp [hz1]
  obtain ⟨w2, hst2⟩ : ∃ w2, w1.alloc (.cells #[.int .i64 q.x0, .int .i64 q.y0, .int .i64 q.x1, .int .i64 q.y1] 43) = w2 := ⟨_, rfl⟩
  rw [hst2] at hb2 hbx hW2 hz2
  have c0 : w2.cell? ⟨w.heap.size, 0, none⟩ = some (.int .i64 16) := by rw [← hop]; exact hb2.is 0 rfl
  have c20 : w2.cell? ⟨w.heap.size, 20, none⟩ = some (.int .i64 q.ax) := hb2.is 20 rfl
  have c21 : w2.cell? ⟨w.heap.size, 21, none⟩ = some (.int .i64 q.ay) := hb2.is 21 rfl
  have HW2 := Lib.hid hW2
  have HN := Lib.hid (Blk.new w2 3 #[.int .i64 q.ax, .int .i64 q.ay])
  rw [hz2] at HN
  clear hb1 hW1 hb2 hW2 hbx hop
  go_enter Tryz.func185, Tryz.ntmps185
  go_wp2_with fail
  go_ret
  exact ⟨_, rfl, ⟨_, rfl, by omega, HN.out.lt, by have := HN.out.lay; exact this⟩, HW2.out.alloc HW2.out.size _⟩

set_option maxRecDepth 100000 in
set_option maxHeartbeats 2000000 in
theorem vals_17 (q : Req) (hop : q.op = 17) (w : World) : Calls Tryz.prog 185 #[.agg (rqC q)] w (VPost w [q.frm]) := by
  have hb1 := Blk.new w 49 (rqC q)
  have hW1 := (Below.refl w.heap.size w).alloc (Nat.le_refl _) (.cells (rqC q) 49)
  have hz1 : (w.alloc (.cells (rqC q) 49)).heap.size = w.heap.size + 1 := by simp
  obtain ⟨w1, hst1⟩ : ∃ w1, w.alloc (.cells (rqC q) 49) = w1 := ⟨_, rfl⟩
  rw [hst1] at hb1 hW1 hz1
  have hbx := Blk.new w1 43 #[.int .i64 q.x0, .int .i64 q.y0, .int .i64 q.x1, .int .i64 q.y1]
  rw [hz1] at hbx
  have hb2 := hb1.alloc (.cells #[.int .i64 q.x0, .int .i64 q.y0, .int .i64 q.x1, .int .i64 q.y1] 43)
  have hW2 := hW1.alloc (by omega) (.cells #[.int .i64 q.x0, .int .i64 q.y0, .int .i64 q.x1, .int .i64 q.y1] 43)
  have x0 : w1.cell? ⟨w.heap.size, 12, none⟩ = some (.int .i64 q.x0) := hb1.is 12 rfl
  have x1 : w1.cell? ⟨w.heap.size, 13, none⟩ = some (.int .i64 q.y0) := hb1.is 13 rfl
  have x2 : w1.cell? ⟨w.heap.size, 14, none⟩ = some (.int .i64 q.x1) := hb1.is 14 rfl
  have x3 : w1.cell? ⟨w.heap.size, 15, none⟩ = some (.int .i64 q.y1) := hb1.is 15 rfl
  have hz2 : (w1.alloc (.cells #[.int .i64 q.x0, .int .i64 q.y0, .int .i64 q.x1, .int .i64 q.y1] 43)).heap.size = w.heap.size + 1 + 1 := by simp [hz1]
  obtain ⟨w2, hst2⟩ : ∃ w2, w1.alloc (.cells #[.int .i64 q.x0, .int .i64 q.y0, .int .i64 q.x1, .int .i64 q.y1] 43) = w2 := ⟨_, rfl⟩
  rw [hst2] at hb2 hbx hW2 hz2
  have c0 : w2.cell? ⟨w.heap.size, 0, none⟩ = some (.int .i64 17) := by rw [← hop]; exact hb2.is 0 rfl
  have c23 : w2.cell? ⟨w.heap.size, 23, none⟩ = some (.int .i64 q.frm) := hb2.is 23 rfl
  have HW2 := Lib.hid hW2
  have HN := Lib.hid (Blk.new w2 3 #[.int .i64 q.frm])
  rw [hz2] at HN
  clear hb1 hW1 hb2 hW2 hbx hop
  go_enter Tryz.func185, Tryz.ntmps185
  go_wp2_with fail
  go_ret
  exact ⟨_, rfl, ⟨_, rfl, by omega, HN.out.lt, by have := HN.out.lay; exact this⟩, HW2.out.alloc HW2.out.size _⟩

set_option maxRecDepth 100000 in
set_option maxHeartbeats 2000000 in
theorem vals_18 (q : Req) (hop : q.op = 18) (w : World) : Calls Tryz.prog 185 #[.agg (rqC q)] w (VPost w []) := by
  have hb1 := Blk.new w 49 (rqC q)
  have hW1 := (Below.refl w.heap.size w).alloc (Nat.le_refl _) (.cells (rqC q) 49)
  have hz1 : (w.alloc (.cells (rqC q) 49)).heap.size = w.heap.size + 1 := by simp
  obtain ⟨w1, hst1⟩ : ∃ w1, w.alloc (.cells (rqC q) 49) = w1 := ⟨_, rfl⟩
  rw [hst1] at hb1 hW1 hz1
  have hbx := Blk.new w1 43 #[.int .i64 q.x0, .int .i64 q.y0, .int .i64 q.x1, .int .i64 q.y1]
  rw [hz1] at hbx
  have hb2 := hb1.alloc (.cells #[.int .i64 q.x0, .int .i64 q.y0, .int .i64 q.x1, .int .i64 q.y1] 43)
  have hW2 := hW1.alloc (by omega) (.cells #[.int .i64 q.x0, .int .i64 q.y0, .int .i64 q.x1, .int .i64 q.y1] 43)
  have x0 : w1.cell? ⟨w.heap.size, 12, none⟩ = some (.int .i64 q.x0) := hb1.is 12 rfl
  have x1 : w1.cell? ⟨w.heap.size, 13, none⟩ = some (.int .i64 q.y0) := hb1.is 13 rfl
  have x2 : w1.cell? ⟨w.heap.size, 14, none⟩ = some (.int .i64 q.x1) := hb1.is 14 rfl
  have x3 : w1.cell? ⟨w.heap.size, 15, none⟩ = some (.int .i64 q.y1) := hb1.is 15 rfl
  have hz2 : (w1.alloc (.cells #[.int .i64 q.x0, .int .i64 q.y0, .int .i64 q.x1, .int .i64 q.y1] 43)).heap.size = w.heap.size + 1 + 1 := by simp [hz1]
  obtain ⟨w2, hst2⟩ : ∃ w2, w1.alloc (.cells #[.int .i64 q.x0, .int .i64 q.y0, .int .i64 q.x1, .int .i64 q.y1] 43) = w2 := ⟨_, rfl⟩
  rw [hst2] at hb2 hbx hW2 hz2
  have c0 : w2.cell? ⟨w.heap.size, 0, none⟩ = some (.int .i64 18) := by rw [← hop]; exact hb2.is 0 rfl
  have HW2 := Lib.hid hW2
  have HN := Lib.hid (Blk.new w2 3 #[])
  rw [hz2] at HN
  clear hb1 hW1 hb2 hW2 hbx hop
  go_enter Tryz.func185, Tryz.ntmps185
  go_wp2_with fail
  go_ret
  exact ⟨_, rfl, ⟨_, rfl, by omega, HN.out.lt, by have := HN.out.lay; exact this⟩, HW2.out.alloc HW2.out.size _⟩

set_option maxRecDepth 100000 in
set_option maxHeartbeats 2000000 in
theorem vals_19 (q : Req) (hop : q.op = 19) (w : World) : Calls Tryz.prog 185 #[.agg (rqC q)] w (VPost w [q.whom, q.quota]) := by
  have hb1 := Blk.new w 49 (rqC q)
  have hW1 := (Below.refl w.heap.size w).alloc (Nat.le_refl _) (.cells (rqC q) 49)
  have hz1 : (w.alloc (.cells (rqC q) 49)).heap.size = w.heap.size + 1 := by simp
  obtain ⟨w1, hst1⟩ : ∃ w1, w.alloc (.cells (rqC q) 49) = w1 := ⟨_, rfl⟩
  rw [hst1] at hb1 hW1 hz1
  have hbx := Blk.new w1 43 #[.int .i64 q.x0, .int .i64 q.y0, .int .i64 q.x1, .int .i64 q.y1]
  rw [hz1] at hbx
  have hb2 := hb1.alloc (.cells #[.int .i64 q.x0, .int .i64 q.y0, .int .i64 q.x1, .int .i64 q.y1] 43)
  have hW2 := hW1.alloc (by omega) (.cells #[.int .i64 q.x0, .int .i64 q.y0, .int .i64 q.x1, .int .i64 q.y1] 43)
  have x0 : w1.cell? ⟨w.heap.size, 12, none⟩ = some (.int .i64 q.x0) := hb1.is 12 rfl
  have x1 : w1.cell? ⟨w.heap.size, 13, none⟩ = some (.int .i64 q.y0) := hb1.is 13 rfl
  have x2 : w1.cell? ⟨w.heap.size, 14, none⟩ = some (.int .i64 q.x1) := hb1.is 14 rfl
  have x3 : w1.cell? ⟨w.heap.size, 15, none⟩ = some (.int .i64 q.y1) := hb1.is 15 rfl
  have hz2 : (w1.alloc (.cells #[.int .i64 q.x0, .int .i64 q.y0, .int .i64 q.x1, .int .i64 q.y1] 43)).heap.size = w.heap.size + 1 + 1 := by simp [hz1]
  obtain ⟨w2, hst2⟩ : ∃ w2, w1.alloc (.cells #[.int .i64 q.x0, .int .i64 q.y0, .int .i64 q.x1, .int .i64 q.y1] 43) = w2 := ⟨_, rfl⟩
  rw [hst2] at hb2 hbx hW2 hz2
  have c0 : w2.cell? ⟨w.heap.size, 0, none⟩ = some (.int .i64 19) := by rw [← hop]; exact hb2.is 0 rfl
  have c5 : w2.cell? ⟨w.heap.size, 5, none⟩ = some (.int .i64 q.whom) := hb2.is 5 rfl
  have c8 : w2.cell? ⟨w.heap.size, 8, none⟩ = some (.int .i64 q.quota) := hb2.is 8 rfl
  have HW2 := Lib.hid hW2
  have HN := Lib.hid (Blk.new w2 3 #[.int .i64 q.whom, .int .i64 q.quota])
  rw [hz2] at HN
  clear hb1 hW1 hb2 hW2 hbx hop
  go_enter Tryz.func185, Tryz.ntmps185
  go_wp2_with fail
  go_ret
  exact ⟨_, rfl, ⟨_, rfl, by omega, HN.out.lt, by have := HN.out.lay; exact this⟩, HW2.out.alloc HW2.out.size _⟩

theorem vals_ok (q : Req) (h : isOp q.op = true) (w : World) : Calls Tryz.prog 185 #[.agg (rqC q)] w (VPost w (valsR q)) := by
  rcases isOp_cases h with h | h | h | h | h | h | h | h | h | h | h | h | h | h | h | h | h | h | h
  · have hc := vals_1 q h w
    simpa [valsR, h] using hc
  · have hc := vals_2 q h w
    simpa [valsR, h] using hc
  · have hc := vals_3 q h w
    simpa [valsR, h] using hc
  · have hc := vals_4 q h w
    simpa [valsR, h] using hc
  · have hc := vals_5 q h w
    simpa [valsR, h] using hc
  · have hc := vals_6 q h w
    simpa [valsR, h] using hc
  · have hc := vals_7 q h w
    simpa [valsR, h] using hc
  · have hc := vals_8 q h w
    simpa [valsR, h] using hc
  · have hc := vals_9 q h w
    simpa [valsR, h] using hc
  · have hc := vals_10 q h w
    simpa [valsR, h] using hc
  · have hc := vals_11 q h w
    simpa [valsR, h] using hc
  · have hc := vals_12 q h w
    simpa [valsR, h] using hc
  · have hc := vals_13 q h w
    simpa [valsR, h] using hc
  · have hc := vals_14 q h w
    simpa [valsR, h] using hc
  · have hc := vals_15 q h w
    simpa [valsR, h] using hc
  · have hc := vals_16 q h w
    simpa [valsR, h] using hc
  · have hc := vals_17 q h w
    simpa [valsR, h] using hc
  · have hc := vals_18 q h w
    simpa [valsR, h] using hc
  · have hc := vals_19 q h w
    simpa [valsR, h] using hc
/-- A table of slices in block g: row i reads as the widths of operation i. -/
def TabN (w w1 : World) (s : Value) : Prop := ∃ g, s = .slice (some ⟨g, 0, none⟩) 20 20 ∧ Below w.heap.size w w1 ∧ ∀ i : Nat, isOp i = true → ∃ v, w1.cell? ⟨g, i, none⟩ = some v ∧ SlN inC w1 w.heap.size v (widths i)

theorem tabN_allocs (os : List Obj) (w : World) (g : Nat) (vs : Array Value) (hg : g = w.heap.size + 20) (ho : os[20]? = some (.cells vs 176 (0, 0)))
    (hr : ∀ i : Nat, isOp i = true → vs[i]? = some (.slice (some ⟨w.heap.size + i, 0, none⟩) (widths i).length (widths i).length) ∧ os[i]? = some (.cells ((widths i).flatMap inC).toArray 3 (0, 0)) ∧ (widths i).length ≤ 100) :
    TabN w (allocs w os) (.slice (some ⟨g, 0, none⟩) 20 20) := by
  refine ⟨g, rfl, allocs_below os w, fun i hi => ?_⟩
  obtain ⟨h1, h2, h3⟩ := hr i hi
  subst hg
  have hb : Blk (allocs w os) (w.heap.size + 20) 176 vs := allocs_get os w 20 _ ho
  have hg2 := allocs_get os w i _ h2
  exact ⟨_, hb.is i h1, ⟨_, rfl, by omega, (Array.getElem?_eq_some_iff.1 hg2).1, by have := Blk.lay (show Blk (allocs w os) (w.heap.size + i) 3 ((widths i).flatMap inC).toArray from hg2); simpa using this⟩⟩

set_option maxRecDepth 100000 in
set_option maxHeartbeats 4000000 in
theorem rfieldsN_ok (op : Int) (h : isOp op = true) (w : World) : Calls Tryz.prog 186 #[.int .i64 op] w fun e w' => ∃ v, e = .returned v ∧ SlN inC w' w.heap.size v (widths op) ∧ Below w.heap.size w w' := by
  obtain ⟨i, rfl⟩ : ∃ i : Nat, op = i := ⟨op.toNat, by have := (isOp_le h).1; omega⟩
  have hi := isOp_le h
  have HO := Lib.hid h
  clear h
  go_enter Tryz.func186, Tryz.ntmps186
  go_upto_region 1 with fail
  go_cut [3] (fun s w1 => TabN w w1 s)
  case first =>
    go_wp2_with fail
    go_meet
    change TabN w (allocs w [_, _, _, _, _, _, _, _, _, _, _, _, _, _, _, _, _, _, _, _, _]) _
    refine tabN_allocs _ w _ _ rfl rfl fun i hi => ?_
    have h19 := isOp_le hi
    obtain rfl | rfl | rfl | rfl | rfl | rfl | rfl | rfl | rfl | rfl | rfl | rfl | rfl | rfl | rfl | rfl | rfl | rfl | rfl : i = 1 ∨ i = 2 ∨ i = 3 ∨ i = 4 ∨ i = 5 ∨ i = 6 ∨ i = 7 ∨ i = 8 ∨ i = 9 ∨ i = 10 ∨ i = 11 ∨ i = 12 ∨ i = 13 ∨ i = 14 ∨ i = 15 ∨ i = 16 ∨ i = 17 ∨ i = 18 ∨ i = 19 := by omega
    all_goals exact ⟨rfl, rfl, by decide⟩
  case rest =>
    obtain ⟨g, rfl, hb, hrow⟩ := hcut
    obtain ⟨v, hv, hs⟩ := hrow i HO.out
    have HS := Lib.hid hs
    clear hrow hs
    go_wp2_with fail
    go_ret
    exact ⟨_, rfl, HS.out, hb⟩

end Go.Proofs.YtmgpfkoomlgcoaaGreat
