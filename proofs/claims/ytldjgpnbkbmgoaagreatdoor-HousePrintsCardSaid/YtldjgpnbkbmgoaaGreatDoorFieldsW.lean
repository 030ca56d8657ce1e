/-
  The writer's fields, and a request's line. Conditions: as each states.
  PRINTED BY genfields.py.
-/
import Derived.Test.YtldjgpnbkbmgoaaGreatDoorLineW
namespace Go.Proofs.YtldjgpnbkbmgoaaGreatDoor
open Go.RowKit

/-- The words of an operation's fields. -/
def fieldsW (q : Req) : List (List UInt8) :=
  if q.op = 1 then nsW [q.whom, q.role, q.tier, q.quota] else
  if q.op = 2 then nsW [q.whom] else
  if q.op = 3 then [quo q.txt] else
  if q.op = 4 then nsW [q.whom, q.rights, q.til] else
  if q.op = 5 then nsW [q.rights, q.zoom] ++ nsW [q.x0, q.y0, q.x1, q.y1] ++ nsW [q.til] else
  if q.op = 6 then [hexT q.other] else
  if q.op = 7 then nsW [q.pk] ++ [txt q.area] else
  if q.op = 8 then nsW [q.ax, q.ay, q.label] else
  if q.op = 13 then nsW [q.x0, q.y0, q.x1, q.y1] else
  if q.op = 14 then nsW [q.ax, q.ay] else
  if q.op = 15 then nsW [q.x0, q.y0, q.x1, q.y1] else
  if q.op = 16 then nsW [q.ax, q.ay] else
  if q.op = 17 then nsW [q.frm] else
  if q.op = 19 then nsW [q.whom, q.quota] else
  []
def FPut (w : World) (base g : Nat) (ws : List (List UInt8)) (e : Ending) (w' : World) : Prop := ∃ bad, WPut w base g ws bad e w'

set_option maxRecDepth 100000 in
set_option maxHeartbeats 2000000 in
theorem wfields_1 (w : World) (base g : Nat) (ws : List (List UInt8)) (bad : Bool) (h : Wri w base g ws bad) (q : Req) (hop : q.op = 1) (hq : q.ok) (_ht : q.txt.length ≤ 1000) (hl : ws.length ≤ 1000) :
    Calls Tryz.prog 70 #[.pointer (some ⟨g, 0, none⟩), .agg (rqC q)] w (FPut w base g (ws ++ fieldsW q)) := by
  have he : fieldsW q = nsW [q.whom, q.role, q.tier, q.quota] := by simp [fieldsW, hop]
  have hlt := h.lt
  have hbw : base ≤ w.heap.size := by omega
  have hgw : w.heap.size ≠ g := by omega
  have hq1 : q.other < 18446744073709551616 := Nat.lt_of_lt_of_eq hq.2.1 (by decide)
  have hq2 : q.area < 18446744073709551616 := Nat.lt_of_lt_of_eq hq.2.2 (by decide)
  have HH := Lib.hid (h.keep ((Below.refl w.heap.size w).alloc (Nat.le_refl _) (.cells (rqC q) 60)))
  have HW := Lib.hid ((Below.refl base w).alloc hbw (.cells (rqC q) 60))
  have HO := Lib.hid ((Lib.OthersKept.refl 9 (some g) w).alloc (.cells (rqC q) 60))
  have HB := Lib.hid (Blk.new w 60 (rqC q))
  have c0 := (show World.cell? _ ⟨w.heap.size, 0, none⟩ = some (.int .i64 q.op) from HB.out.is 0 rfl)
  obtain ⟨w0, hst⟩ : ∃ w0, w.alloc (.cells (rqC q) 60) = w0 := ⟨_, rfl⟩
  rw [hst] at HH HW HO HB c0
  rw [hop] at c0
  have HE := Lib.hid he
  have HQ := Lib.hid hq1
  have HQ2 := Lib.hid hq2
  clear h he hop hq hq1 hq2
  rw [HE.out]
  go_enter Tryz.func70, Tryz.ntmps70
  have c5 := (show World.cell? _ ⟨w.heap.size, 5, none⟩ = some (.int .i64 q.whom) from HB.out.is 5 rfl)
  have c6 := (show World.cell? _ ⟨w.heap.size, 6, none⟩ = some (.int .i64 q.role) from HB.out.is 6 rfl)
  have c7 := (show World.cell? _ ⟨w.heap.size, 7, none⟩ = some (.int .i64 q.tier) from HB.out.is 7 rfl)
  have c8 := (show World.cell? _ ⟨w.heap.size, 8, none⟩ = some (.int .i64 q.quota) from HB.out.is 8 rfl)
  go_wp2_with fail
  refine (numbers_new _ base g _ _ HH.out [q.whom, q.role, q.tier, q.quota] _ rfl _ _ rfl rfl (by simp; omega)).mono ?_
  rintro e w1 ⟨rfl, h1, h2, h3⟩
  have HH := Lib.hid h1
  have HB := Lib.hid (h2.blk HB.out hgw (by decide))
  have HO := Lib.hid (HO.out.trans h2)
  have HW := Lib.hid (HW.out.trans h3)
  clear h1 h2 h3 c5 c6 c7 c8
  go_wp2_with fail
  refine bodyPost_ret (results_none rfl _ _ _) rfl ?_
  exact ⟨_, rfl, HH.out, HO.out, HW.out⟩

set_option maxRecDepth 100000 in
set_option maxHeartbeats 2000000 in
theorem wfields_2 (w : World) (base g : Nat) (ws : List (List UInt8)) (bad : Bool) (h : Wri w base g ws bad) (q : Req) (hop : q.op = 2) (hq : q.ok) (_ht : q.txt.length ≤ 1000) (hl : ws.length ≤ 1000) :
    Calls Tryz.prog 70 #[.pointer (some ⟨g, 0, none⟩), .agg (rqC q)] w (FPut w base g (ws ++ fieldsW q)) := by
  have he : fieldsW q = nsW [q.whom] := by simp [fieldsW, hop]
  have hlt := h.lt
  have hbw : base ≤ w.heap.size := by omega
  have hgw : w.heap.size ≠ g := by omega
  have hq1 : q.other < 18446744073709551616 := Nat.lt_of_lt_of_eq hq.2.1 (by decide)
  have hq2 : q.area < 18446744073709551616 := Nat.lt_of_lt_of_eq hq.2.2 (by decide)
  have HH := Lib.hid (h.keep ((Below.refl w.heap.size w).alloc (Nat.le_refl _) (.cells (rqC q) 60)))
  have HW := Lib.hid ((Below.refl base w).alloc hbw (.cells (rqC q) 60))
  have HO := Lib.hid ((Lib.OthersKept.refl 9 (some g) w).alloc (.cells (rqC q) 60))
  have HB := Lib.hid (Blk.new w 60 (rqC q))
  have c0 := (show World.cell? _ ⟨w.heap.size, 0, none⟩ = some (.int .i64 q.op) from HB.out.is 0 rfl)
  obtain ⟨w0, hst⟩ : ∃ w0, w.alloc (.cells (rqC q) 60) = w0 := ⟨_, rfl⟩
  rw [hst] at HH HW HO HB c0
  rw [hop] at c0
  have HE := Lib.hid he
  have HQ := Lib.hid hq1
  have HQ2 := Lib.hid hq2
  clear h he hop hq hq1 hq2
  rw [HE.out]
  go_enter Tryz.func70, Tryz.ntmps70
  have c5 := (show World.cell? _ ⟨w.heap.size, 5, none⟩ = some (.int .i64 q.whom) from HB.out.is 5 rfl)
  go_wp2_with fail
  refine (numbers_new _ base g _ _ HH.out [q.whom] _ rfl _ _ rfl rfl (by simp; omega)).mono ?_
  rintro e w1 ⟨rfl, h1, h2, h3⟩
  have HH := Lib.hid h1
  have HB := Lib.hid (h2.blk HB.out hgw (by decide))
  have HO := Lib.hid (HO.out.trans h2)
  have HW := Lib.hid (HW.out.trans h3)
  clear h1 h2 h3 c5
  go_wp2_with fail
  refine bodyPost_ret (results_none rfl _ _ _) rfl ?_
  exact ⟨_, rfl, HH.out, HO.out, HW.out⟩

set_option maxRecDepth 100000 in
set_option maxHeartbeats 2000000 in
theorem wfields_3 (w : World) (base g : Nat) (ws : List (List UInt8)) (bad : Bool) (h : Wri w base g ws bad) (q : Req) (hop : q.op = 3) (hq : q.ok) (ht : q.txt.length ≤ 1000) (hl : ws.length ≤ 1000) :
    Calls Tryz.prog 70 #[.pointer (some ⟨g, 0, none⟩), .agg (rqC q)] w (FPut w base g (ws ++ fieldsW q)) := by
  have he : fieldsW q = [quo q.txt] := by simp [fieldsW, hop]
  have hlt := h.lt
  have hbw : base ≤ w.heap.size := by omega
  have hgw : w.heap.size ≠ g := by omega
  have hq1 : q.other < 18446744073709551616 := Nat.lt_of_lt_of_eq hq.2.1 (by decide)
  have hq2 : q.area < 18446744073709551616 := Nat.lt_of_lt_of_eq hq.2.2 (by decide)
  have HH := Lib.hid (h.keep ((Below.refl w.heap.size w).alloc (Nat.le_refl _) (.cells (rqC q) 60)))
  have HW := Lib.hid ((Below.refl base w).alloc hbw (.cells (rqC q) 60))
  have HO := Lib.hid ((Lib.OthersKept.refl 9 (some g) w).alloc (.cells (rqC q) 60))
  have HB := Lib.hid (Blk.new w 60 (rqC q))
  have c0 := (show World.cell? _ ⟨w.heap.size, 0, none⟩ = some (.int .i64 q.op) from HB.out.is 0 rfl)
  obtain ⟨w0, hst⟩ : ∃ w0, w.alloc (.cells (rqC q) 60) = w0 := ⟨_, rfl⟩
  rw [hst] at HH HW HO HB c0
  rw [hop] at c0
  have HE := Lib.hid he
  have HQ := Lib.hid hq1
  have HQ2 := Lib.hid hq2
  clear h he hop hq hq1 hq2
  rw [HE.out]
  go_enter Tryz.func70, Tryz.ntmps70
  have c9 := (show World.cell? _ ⟨w.heap.size, 9, none⟩ = some (strV q.txt) from HB.out.is 9 rfl)
  go_wp2_with fail
  refine (quoted_ok q.txt _ (by omega)).mono ?_
  rintro e w1 ⟨rfl, h1⟩
  have hlt0 := HH.out.lt
  have HW := Lib.hid (HW.out.trans (h1.mono (by omega)))
  have HO := Lib.hid (HO.out.trans (oth_below h1))
  have HB := Lib.hid (HB.out.below h1 HB.out.lt)
  have HH := Lib.hid (HH.out.keep h1)
  clear h1
  go_wp2_with fail
  refine (word_new _ base g _ _ HH.out (quo q.txt) _ rfl (by simp; omega)).mono ?_
  rintro e w2 ⟨rfl, h1, h2, h3⟩
  have HH := Lib.hid h1
  have HB := Lib.hid (h2.blk HB.out hgw (by decide))
  have HO := Lib.hid (HO.out.trans h2)
  have HW := Lib.hid (HW.out.trans h3)
  clear h1 h2 h3 c9
  go_wp2_with fail
  refine bodyPost_ret (results_none rfl _ _ _) rfl ?_
  exact ⟨_, rfl, HH.out, HO.out, HW.out⟩

set_option maxRecDepth 100000 in
set_option maxHeartbeats 2000000 in
theorem wfields_4 (w : World) (base g : Nat) (ws : List (List UInt8)) (bad : Bool) (h : Wri w base g ws bad) (q : Req) (hop : q.op = 4) (hq : q.ok) (_ht : q.txt.length ≤ 1000) (hl : ws.length ≤ 1000) :
    Calls Tryz.prog 70 #[.pointer (some ⟨g, 0, none⟩), .agg (rqC q)] w (FPut w base g (ws ++ fieldsW q)) := by
  have he : fieldsW q = nsW [q.whom, q.rights, q.til] := by simp [fieldsW, hop]
  have hlt := h.lt
  have hbw : base ≤ w.heap.size := by omega
  have hgw : w.heap.size ≠ g := by omega
  have hq1 : q.other < 18446744073709551616 := Nat.lt_of_lt_of_eq hq.2.1 (by decide)
  have hq2 : q.area < 18446744073709551616 := Nat.lt_of_lt_of_eq hq.2.2 (by decide)
  have HH := Lib.hid (h.keep ((Below.refl w.heap.size w).alloc (Nat.le_refl _) (.cells (rqC q) 60)))
  have HW := Lib.hid ((Below.refl base w).alloc hbw (.cells (rqC q) 60))
  have HO := Lib.hid ((Lib.OthersKept.refl 9 (some g) w).alloc (.cells (rqC q) 60))
  have HB := Lib.hid (Blk.new w 60 (rqC q))
  have c0 := (show World.cell? _ ⟨w.heap.size, 0, none⟩ = some (.int .i64 q.op) from HB.out.is 0 rfl)
  obtain ⟨w0, hst⟩ : ∃ w0, w.alloc (.cells (rqC q) 60) = w0 := ⟨_, rfl⟩
  rw [hst] at HH HW HO HB c0
  rw [hop] at c0
  have HE := Lib.hid he
  have HQ := Lib.hid hq1
  have HQ2 := Lib.hid hq2
  clear h he hop hq hq1 hq2
  rw [HE.out]
  go_enter Tryz.func70, Tryz.ntmps70
  have c5 := (show World.cell? _ ⟨w.heap.size, 5, none⟩ = some (.int .i64 q.whom) from HB.out.is 5 rfl)
  have c10 := (show World.cell? _ ⟨w.heap.size, 10, none⟩ = some (.int .i64 q.rights) from HB.out.is 10 rfl)
  have c16 := (show World.cell? _ ⟨w.heap.size, 16, none⟩ = some (.int .i64 q.til) from HB.out.is 16 rfl)
  go_wp2_with fail
  refine (numbers_new _ base g _ _ HH.out [q.whom, q.rights, q.til] _ rfl _ _ rfl rfl (by simp; omega)).mono ?_
  rintro e w1 ⟨rfl, h1, h2, h3⟩
  have HH := Lib.hid h1
  have HB := Lib.hid (h2.blk HB.out hgw (by decide))
  have HO := Lib.hid (HO.out.trans h2)
  have HW := Lib.hid (HW.out.trans h3)
  clear h1 h2 h3 c5 c10 c16
  go_wp2_with fail
  refine bodyPost_ret (results_none rfl _ _ _) rfl ?_
  exact ⟨_, rfl, HH.out, HO.out, HW.out⟩

set_option maxRecDepth 100000 in
set_option maxHeartbeats 2000000 in
theorem wfields_5 (w : World) (base g : Nat) (ws : List (List UInt8)) (bad : Bool) (h : Wri w base g ws bad) (q : Req) (hop : q.op = 5) (hq : q.ok) (_ht : q.txt.length ≤ 1000) (hl : ws.length ≤ 1000) :
    Calls Tryz.prog 70 #[.pointer (some ⟨g, 0, none⟩), .agg (rqC q)] w (FPut w base g (ws ++ fieldsW q)) := by
  have he : fieldsW q = nsW [q.rights, q.zoom] ++ nsW [q.x0, q.y0, q.x1, q.y1] ++ nsW [q.til] := by simp [fieldsW, hop]
  have hlt := h.lt
  have hbw : base ≤ w.heap.size := by omega
  have hgw : w.heap.size ≠ g := by omega
  have hq1 : q.other < 18446744073709551616 := Nat.lt_of_lt_of_eq hq.2.1 (by decide)
  have hq2 : q.area < 18446744073709551616 := Nat.lt_of_lt_of_eq hq.2.2 (by decide)
  have HH := Lib.hid (h.keep ((Below.refl w.heap.size w).alloc (Nat.le_refl _) (.cells (rqC q) 60)))
  have HW := Lib.hid ((Below.refl base w).alloc hbw (.cells (rqC q) 60))
  have HO := Lib.hid ((Lib.OthersKept.refl 9 (some g) w).alloc (.cells (rqC q) 60))
  have HB := Lib.hid (Blk.new w 60 (rqC q))
  have c0 := (show World.cell? _ ⟨w.heap.size, 0, none⟩ = some (.int .i64 q.op) from HB.out.is 0 rfl)
  obtain ⟨w0, hst⟩ : ∃ w0, w.alloc (.cells (rqC q) 60) = w0 := ⟨_, rfl⟩
  rw [hst] at HH HW HO HB c0
  rw [hop] at c0
  have HE := Lib.hid he
  have HQ := Lib.hid hq1
  have HQ2 := Lib.hid hq2
  clear h he hop hq hq1 hq2
  rw [HE.out, show ws ++ (nsW [q.rights, q.zoom] ++ nsW [q.x0, q.y0, q.x1, q.y1] ++ nsW [q.til]) = ws ++ nsW [q.rights, q.zoom] ++ nsW [q.x0, q.y0, q.x1, q.y1] ++ nsW [q.til] from by simp]
  go_enter Tryz.func70, Tryz.ntmps70
  have c10 := (show World.cell? _ ⟨w.heap.size, 10, none⟩ = some (.int .i64 q.rights) from HB.out.is 10 rfl)
  have c11 := (show World.cell? _ ⟨w.heap.size, 11, none⟩ = some (.int .i64 q.zoom) from HB.out.is 11 rfl)
  go_wp2_with fail
  refine (numbers_new _ base g _ _ HH.out [q.rights, q.zoom] _ rfl _ _ rfl rfl (by simp; omega)).mono ?_
  rintro e w1 ⟨rfl, h1, h2, h3⟩
  have HH := Lib.hid h1
  have HB := Lib.hid (h2.blk HB.out hgw (by decide))
  have HO := Lib.hid (HO.out.trans h2)
  have HW := Lib.hid (HW.out.trans h3)
  clear h1 h2 h3 c10 c11
  have c12 := (show World.cell? _ ⟨w.heap.size, 12, none⟩ = some (.int .i64 q.x0) from HB.out.is 12 rfl)
  have c13 := (show World.cell? _ ⟨w.heap.size, 13, none⟩ = some (.int .i64 q.y0) from HB.out.is 13 rfl)
  have c14 := (show World.cell? _ ⟨w.heap.size, 14, none⟩ = some (.int .i64 q.x1) from HB.out.is 14 rfl)
  have c15 := (show World.cell? _ ⟨w.heap.size, 15, none⟩ = some (.int .i64 q.y1) from HB.out.is 15 rfl)
  go_wp2_with fail
  refine (wrect_ok _ base g _ _ HH.out q.x0 q.y0 q.x1 q.y1 (by simp [nsW]; omega)).mono ?_
  rintro e w2 ⟨rfl, h1, h2, h3⟩
  have HH := Lib.hid h1
  have HB := Lib.hid (h2.blk HB.out hgw (by decide))
  have HO := Lib.hid (HO.out.trans h2)
  have HW := Lib.hid (HW.out.trans h3)
  clear h1 h2 h3 c12 c13 c14 c15
  have c16 := (show World.cell? _ ⟨w.heap.size, 16, none⟩ = some (.int .i64 q.til) from HB.out.is 16 rfl)
  go_wp2_with fail
  refine (numbers_new _ base g _ _ HH.out [q.til] _ rfl _ _ rfl rfl (by simp [nsW]; omega)).mono ?_
  rintro e w3 ⟨rfl, h1, h2, h3⟩
  have HH := Lib.hid h1
  have HB := Lib.hid (h2.blk HB.out hgw (by decide))
  have HO := Lib.hid (HO.out.trans h2)
  have HW := Lib.hid (HW.out.trans h3)
  clear h1 h2 h3 c16
  go_wp2_with fail
  refine bodyPost_ret (results_none rfl _ _ _) rfl ?_
  exact ⟨_, rfl, HH.out, HO.out, HW.out⟩

set_option maxRecDepth 100000 in
set_option maxHeartbeats 2000000 in
theorem wfields_6 (w : World) (base g : Nat) (ws : List (List UInt8)) (bad : Bool) (h : Wri w base g ws bad) (q : Req) (hop : q.op = 6) (hq : q.ok) (_ht : q.txt.length ≤ 1000) (hl : ws.length ≤ 1000) :
    Calls Tryz.prog 70 #[.pointer (some ⟨g, 0, none⟩), .agg (rqC q)] w (FPut w base g (ws ++ fieldsW q)) := by
  have he : fieldsW q = [hexT q.other] := by simp [fieldsW, hop]
  have hlt := h.lt
  have hbw : base ≤ w.heap.size := by omega
  have hgw : w.heap.size ≠ g := by omega
  have hq1 : q.other < 18446744073709551616 := Nat.lt_of_lt_of_eq hq.2.1 (by decide)
  have hq2 : q.area < 18446744073709551616 := Nat.lt_of_lt_of_eq hq.2.2 (by decide)
  have HH := Lib.hid (h.keep ((Below.refl w.heap.size w).alloc (Nat.le_refl _) (.cells (rqC q) 60)))
  have HW := Lib.hid ((Below.refl base w).alloc hbw (.cells (rqC q) 60))
  have HO := Lib.hid ((Lib.OthersKept.refl 9 (some g) w).alloc (.cells (rqC q) 60))
  have HB := Lib.hid (Blk.new w 60 (rqC q))
  have c0 := (show World.cell? _ ⟨w.heap.size, 0, none⟩ = some (.int .i64 q.op) from HB.out.is 0 rfl)
  obtain ⟨w0, hst⟩ : ∃ w0, w.alloc (.cells (rqC q) 60) = w0 := ⟨_, rfl⟩
  rw [hst] at HH HW HO HB c0
  rw [hop] at c0
  have HE := Lib.hid he
  have HQ := Lib.hid hq1
  have HQ2 := Lib.hid hq2
  clear h he hop hq hq1 hq2
  rw [HE.out]
  go_enter Tryz.func70, Tryz.ntmps70
  have c17 := (show World.cell? _ ⟨w.heap.size, 17, none⟩ = some (.int .u64 (q.other : Nat)) from HB.out.is 17 rfl)
  go_wp2_with fail
  refine (hex_ok q.other _ HQ.out).mono ?_
  rintro e w1 ⟨rfl, h1⟩
  have hlt0 := HH.out.lt
  have HW := Lib.hid (HW.out.trans (h1.mono (by omega)))
  have HO := Lib.hid (HO.out.trans (oth_below h1))
  have HB := Lib.hid (HB.out.below h1 HB.out.lt)
  have HH := Lib.hid (HH.out.keep h1)
  clear h1
  go_wp2_with fail
  refine (word_new _ base g _ _ HH.out (hexT q.other) _ rfl (by simp; omega)).mono ?_
  rintro e w2 ⟨rfl, h1, h2, h3⟩
  have HH := Lib.hid h1
  have HB := Lib.hid (h2.blk HB.out hgw (by decide))
  have HO := Lib.hid (HO.out.trans h2)
  have HW := Lib.hid (HW.out.trans h3)
  clear h1 h2 h3 c17
  go_wp2_with fail
  refine bodyPost_ret (results_none rfl _ _ _) rfl ?_
  exact ⟨_, rfl, HH.out, HO.out, HW.out⟩

set_option maxRecDepth 100000 in
set_option maxHeartbeats 2000000 in
theorem wfields_7 (w : World) (base g : Nat) (ws : List (List UInt8)) (bad : Bool) (h : Wri w base g ws bad) (q : Req) (hop : q.op = 7) (hq : q.ok) (_ht : q.txt.length ≤ 1000) (hl : ws.length ≤ 1000) :
    Calls Tryz.prog 70 #[.pointer (some ⟨g, 0, none⟩), .agg (rqC q)] w (FPut w base g (ws ++ fieldsW q)) := by
  have he : fieldsW q = nsW [q.pk] ++ [txt q.area] := by simp [fieldsW, hop]
  have hlt := h.lt
  have hbw : base ≤ w.heap.size := by omega
  have hgw : w.heap.size ≠ g := by omega
  have hq1 : q.other < 18446744073709551616 := Nat.lt_of_lt_of_eq hq.2.1 (by decide)
  have hq2 : q.area < 18446744073709551616 := Nat.lt_of_lt_of_eq hq.2.2 (by decide)
  have HH := Lib.hid (h.keep ((Below.refl w.heap.size w).alloc (Nat.le_refl _) (.cells (rqC q) 60)))
  have HW := Lib.hid ((Below.refl base w).alloc hbw (.cells (rqC q) 60))
  have HO := Lib.hid ((Lib.OthersKept.refl 9 (some g) w).alloc (.cells (rqC q) 60))
  have HB := Lib.hid (Blk.new w 60 (rqC q))
  have c0 := (show World.cell? _ ⟨w.heap.size, 0, none⟩ = some (.int .i64 q.op) from HB.out.is 0 rfl)
  obtain ⟨w0, hst⟩ : ∃ w0, w.alloc (.cells (rqC q) 60) = w0 := ⟨_, rfl⟩
  rw [hst] at HH HW HO HB c0
  rw [hop] at c0
  have HE := Lib.hid he
  have HQ := Lib.hid hq1
  have HQ2 := Lib.hid hq2
  clear h he hop hq hq1 hq2
  rw [HE.out, show ws ++ (nsW [q.pk] ++ [txt q.area]) = ws ++ nsW [q.pk] ++ [txt q.area] from by simp]
  go_enter Tryz.func70, Tryz.ntmps70
  have c18 := (show World.cell? _ ⟨w.heap.size, 18, none⟩ = some (.int .i64 q.pk) from HB.out.is 18 rfl)
  go_wp2_with fail
  refine (numbers_new _ base g _ _ HH.out [q.pk] _ rfl _ _ rfl rfl (by simp; omega)).mono ?_
  rintro e w1 ⟨rfl, h1, h2, h3⟩
  have HH := Lib.hid h1
  have HB := Lib.hid (h2.blk HB.out hgw (by decide))
  have HO := Lib.hid (HO.out.trans h2)
  have HW := Lib.hid (HW.out.trans h3)
  clear h1 h2 h3 c18
  have c19 := (show World.cell? _ ⟨w.heap.size, 19, none⟩ = some (.int .u64 (q.area : Nat)) from HB.out.is 19 rfl)
  go_wp2_with fail
  refine (ntext_ok q.area _ HQ2.out).mono ?_
  rintro e w2 ⟨rfl, h1⟩
  have hlt1 := HH.out.lt
  have HW := Lib.hid (HW.out.trans (h1.mono (by omega)))
  have HO := Lib.hid (HO.out.trans (oth_below h1))
  have HB := Lib.hid (HB.out.below h1 HB.out.lt)
  have HH := Lib.hid (HH.out.keep h1)
  clear h1
  go_wp2_with fail
  refine (word_new _ base g _ _ HH.out (txt q.area) _ rfl (by simp [nsW]; omega)).mono ?_
  rintro e w3 ⟨rfl, h1, h2, h3⟩
  have HH := Lib.hid h1
  have HB := Lib.hid (h2.blk HB.out hgw (by decide))
  have HO := Lib.hid (HO.out.trans h2)
  have HW := Lib.hid (HW.out.trans h3)
  clear h1 h2 h3 c19
  go_wp2_with fail
  refine bodyPost_ret (results_none rfl _ _ _) rfl ?_
  exact ⟨_, rfl, HH.out, HO.out, HW.out⟩

set_option maxRecDepth 100000 in
set_option maxHeartbeats 2000000 in
theorem wfields_8 (w : World) (base g : Nat) (ws : List (List UInt8)) (bad : Bool) (h : Wri w base g ws bad) (q : Req) (hop : q.op = 8) (hq : q.ok) (_ht : q.txt.length ≤ 1000) (hl : ws.length ≤ 1000) :
    Calls Tryz.prog 70 #[.pointer (some ⟨g, 0, none⟩), .agg (rqC q)] w (FPut w base g (ws ++ fieldsW q)) := by
  have he : fieldsW q = nsW [q.ax, q.ay, q.label] := by simp [fieldsW, hop]
  have hlt := h.lt
  have hbw : base ≤ w.heap.size := by omega
  have hgw : w.heap.size ≠ g := by omega
  have hq1 : q.other < 18446744073709551616 := Nat.lt_of_lt_of_eq hq.2.1 (by decide)
  have hq2 : q.area < 18446744073709551616 := Nat.lt_of_lt_of_eq hq.2.2 (by decide)
  have HH := Lib.hid (h.keep ((Below.refl w.heap.size w).alloc (Nat.le_refl _) (.cells (rqC q) 60)))
  have HW := Lib.hid ((Below.refl base w).alloc hbw (.cells (rqC q) 60))
  have HO := Lib.hid ((Lib.OthersKept.refl 9 (some g) w).alloc (.cells (rqC q) 60))
  have HB := Lib.hid (Blk.new w 60 (rqC q))
  have c0 := (show World.cell? _ ⟨w.heap.size, 0, none⟩ = some (.int .i64 q.op) from HB.out.is 0 rfl)
  obtain ⟨w0, hst⟩ : ∃ w0, w.alloc (.cells (rqC q) 60) = w0 := ⟨_, rfl⟩
  rw [hst] at HH HW HO HB c0
  rw [hop] at c0
  have HE := Lib.hid he
  have HQ := Lib.hid hq1
  have HQ2 := Lib.hid hq2
  clear h he hop hq hq1 hq2
  rw [HE.out]
  go_enter Tryz.func70, Tryz.ntmps70
  have c20 := (show World.cell? _ ⟨w.heap.size, 20, none⟩ = some (.int .i64 q.ax) from HB.out.is 20 rfl)
  have c21 := (show World.cell? _ ⟨w.heap.size, 21, none⟩ = some (.int .i64 q.ay) from HB.out.is 21 rfl)
  have c22 := (show World.cell? _ ⟨w.heap.size, 22, none⟩ = some (.int .i64 q.label) from HB.out.is 22 rfl)
  go_wp2_with fail
  refine (numbers_new _ base g _ _ HH.out [q.ax, q.ay, q.label] _ rfl _ _ rfl rfl (by simp; omega)).mono ?_
  rintro e w1 ⟨rfl, h1, h2, h3⟩
  have HH := Lib.hid h1
  have HB := Lib.hid (h2.blk HB.out hgw (by decide))
  have HO := Lib.hid (HO.out.trans h2)
  have HW := Lib.hid (HW.out.trans h3)
  clear h1 h2 h3 c20 c21 c22
  go_wp2_with fail
  refine bodyPost_ret (results_none rfl _ _ _) rfl ?_
  exact ⟨_, rfl, HH.out, HO.out, HW.out⟩

set_option maxRecDepth 100000 in
set_option maxHeartbeats 2000000 in
theorem wfields_13 (w : World) (base g : Nat) (ws : List (List UInt8)) (bad : Bool) (h : Wri w base g ws bad) (q : Req) (hop : q.op = 13) (hq : q.ok) (_ht : q.txt.length ≤ 1000) (hl : ws.length ≤ 1000) :
    Calls Tryz.prog 70 #[.pointer (some ⟨g, 0, none⟩), .agg (rqC q)] w (FPut w base g (ws ++ fieldsW q)) := by
  have he : fieldsW q = nsW [q.x0, q.y0, q.x1, q.y1] := by simp [fieldsW, hop]
  have hlt := h.lt
  have hbw : base ≤ w.heap.size := by omega
  have hgw : w.heap.size ≠ g := by omega
  have hq1 : q.other < 18446744073709551616 := Nat.lt_of_lt_of_eq hq.2.1 (by decide)
  have hq2 : q.area < 18446744073709551616 := Nat.lt_of_lt_of_eq hq.2.2 (by decide)
  have HH := Lib.hid (h.keep ((Below.refl w.heap.size w).alloc (Nat.le_refl _) (.cells (rqC q) 60)))
  have HW := Lib.hid ((Below.refl base w).alloc hbw (.cells (rqC q) 60))
  have HO := Lib.hid ((Lib.OthersKept.refl 9 (some g) w).alloc (.cells (rqC q) 60))
  have HB := Lib.hid (Blk.new w 60 (rqC q))
  have c0 := (show World.cell? _ ⟨w.heap.size, 0, none⟩ = some (.int .i64 q.op) from HB.out.is 0 rfl)
  obtain ⟨w0, hst⟩ : ∃ w0, w.alloc (.cells (rqC q) 60) = w0 := ⟨_, rfl⟩
  rw [hst] at HH HW HO HB c0
  rw [hop] at c0
  have HE := Lib.hid he
  have HQ := Lib.hid hq1
  have HQ2 := Lib.hid hq2
  clear h he hop hq hq1 hq2
  rw [HE.out]
  go_enter Tryz.func70, Tryz.ntmps70
  have c12 := (show World.cell? _ ⟨w.heap.size, 12, none⟩ = some (.int .i64 q.x0) from HB.out.is 12 rfl)
  have c13 := (show World.cell? _ ⟨w.heap.size, 13, none⟩ = some (.int .i64 q.y0) from HB.out.is 13 rfl)
  have c14 := (show World.cell? _ ⟨w.heap.size, 14, none⟩ = some (.int .i64 q.x1) from HB.out.is 14 rfl)
  have c15 := (show World.cell? _ ⟨w.heap.size, 15, none⟩ = some (.int .i64 q.y1) from HB.out.is 15 rfl)
  go_wp2_with fail
  refine (wrect_ok _ base g _ _ HH.out q.x0 q.y0 q.x1 q.y1 (by omega)).mono ?_
  rintro e w1 ⟨rfl, h1, h2, h3⟩
  have HH := Lib.hid h1
  have HB := Lib.hid (h2.blk HB.out hgw (by decide))
  have HO := Lib.hid (HO.out.trans h2)
  have HW := Lib.hid (HW.out.trans h3)
  clear h1 h2 h3 c12 c13 c14 c15
  go_wp2_with fail
  refine bodyPost_ret (results_none rfl _ _ _) rfl ?_
  exact ⟨_, rfl, HH.out, HO.out, HW.out⟩

set_option maxRecDepth 100000 in
set_option maxHeartbeats 2000000 in
theorem wfields_14 (w : World) (base g : Nat) (ws : List (List UInt8)) (bad : Bool) (h : Wri w base g ws bad) (q : Req) (hop : q.op = 14) (hq : q.ok) (_ht : q.txt.length ≤ 1000) (hl : ws.length ≤ 1000) :
    Calls Tryz.prog 70 #[.pointer (some ⟨g, 0, none⟩), .agg (rqC q)] w (FPut w base g (ws ++ fieldsW q)) := by
  have he : fieldsW q = nsW [q.ax, q.ay] := by simp [fieldsW, hop]
  have hlt := h.lt
  have hbw : base ≤ w.heap.size := by omega
  have hgw : w.heap.size ≠ g := by omega
  have hq1 : q.other < 18446744073709551616 := Nat.lt_of_lt_of_eq hq.2.1 (by decide)
  have hq2 : q.area < 18446744073709551616 := Nat.lt_of_lt_of_eq hq.2.2 (by decide)
  have HH := Lib.hid (h.keep ((Below.refl w.heap.size w).alloc (Nat.le_refl _) (.cells (rqC q) 60)))
  have HW := Lib.hid ((Below.refl base w).alloc hbw (.cells (rqC q) 60))
  have HO := Lib.hid ((Lib.OthersKept.refl 9 (some g) w).alloc (.cells (rqC q) 60))
  have HB := Lib.hid (Blk.new w 60 (rqC q))
  have c0 := (show World.cell? _ ⟨w.heap.size, 0, none⟩ = some (.int .i64 q.op) from HB.out.is 0 rfl)
  obtain ⟨w0, hst⟩ : ∃ w0, w.alloc (.cells (rqC q) 60) = w0 := ⟨_, rfl⟩
  rw [hst] at HH HW HO HB c0
  rw [hop] at c0
  have HE := Lib.hid he
  have HQ := Lib.hid hq1
  have HQ2 := Lib.hid hq2
  clear h he hop hq hq1 hq2
  rw [HE.out]
  go_enter Tryz.func70, Tryz.ntmps70
  have c20 := (show World.cell? _ ⟨w.heap.size, 20, none⟩ = some (.int .i64 q.ax) from HB.out.is 20 rfl)
  have c21 := (show World.cell? _ ⟨w.heap.size, 21, none⟩ = some (.int .i64 q.ay) from HB.out.is 21 rfl)
  go_wp2_with fail
  refine (numbers_new _ base g _ _ HH.out [q.ax, q.ay] _ rfl _ _ rfl rfl (by simp; omega)).mono ?_
  rintro e w1 ⟨rfl, h1, h2, h3⟩
  have HH := Lib.hid h1
  have HB := Lib.hid (h2.blk HB.out hgw (by decide))
  have HO := Lib.hid (HO.out.trans h2)
  have HW := Lib.hid (HW.out.trans h3)
  clear h1 h2 h3 c20 c21
  go_wp2_with fail
  refine bodyPost_ret (results_none rfl _ _ _) rfl ?_
  exact ⟨_, rfl, HH.out, HO.out, HW.out⟩

set_option maxRecDepth 100000 in
set_option maxHeartbeats 2000000 in
theorem wfields_15 (w : World) (base g : Nat) (ws : List (List UInt8)) (bad : Bool) (h : Wri w base g ws bad) (q : Req) (hop : q.op = 15) (hq : q.ok) (_ht : q.txt.length ≤ 1000) (hl : ws.length ≤ 1000) :
    Calls Tryz.prog 70 #[.pointer (some ⟨g, 0, none⟩), .agg (rqC q)] w (FPut w base g (ws ++ fieldsW q)) := by
  have he : fieldsW q = nsW [q.x0, q.y0, q.x1, q.y1] := by simp [fieldsW, hop]
  have hlt := h.lt
  have hbw : base ≤ w.heap.size := by omega
  have hgw : w.heap.size ≠ g := by omega
  have hq1 : q.other < 18446744073709551616 := Nat.lt_of_lt_of_eq hq.2.1 (by decide)
  have hq2 : q.area < 18446744073709551616 := Nat.lt_of_lt_of_eq hq.2.2 (by decide)
  have HH := Lib.hid (h.keep ((Below.refl w.heap.size w).alloc (Nat.le_refl _) (.cells (rqC q) 60)))
  have HW := Lib.hid ((Below.refl base w).alloc hbw (.cells (rqC q) 60))
  have HO := Lib.hid ((Lib.OthersKept.refl 9 (some g) w).alloc (.cells (rqC q) 60))
  have HB := Lib.hid (Blk.new w 60 (rqC q))
  have c0 := (show World.cell? _ ⟨w.heap.size, 0, none⟩ = some (.int .i64 q.op) from HB.out.is 0 rfl)
  obtain ⟨w0, hst⟩ : ∃ w0, w.alloc (.cells (rqC q) 60) = w0 := ⟨_, rfl⟩
  rw [hst] at HH HW HO HB c0
  rw [hop] at c0
  have HE := Lib.hid he
  have HQ := Lib.hid hq1
  have HQ2 := Lib.hid hq2
  clear h he hop hq hq1 hq2
  rw [HE.out]
  go_enter Tryz.func70, Tryz.ntmps70
  have c12 := (show World.cell? _ ⟨w.heap.size, 12, none⟩ = some (.int .i64 q.x0) from HB.out.is 12 rfl)
  have c13 := (show World.cell? _ ⟨w.heap.size, 13, none⟩ = some (.int .i64 q.y0) from HB.out.is 13 rfl)
  have c14 := (show World.cell? _ ⟨w.heap.size, 14, none⟩ = some (.int .i64 q.x1) from HB.out.is 14 rfl)
  have c15 := (show World.cell? _ ⟨w.heap.size, 15, none⟩ = some (.int .i64 q.y1) from HB.out.is 15 rfl)
  go_wp2_with fail
  refine (wrect_ok _ base g _ _ HH.out q.x0 q.y0 q.x1 q.y1 (by omega)).mono ?_
  rintro e w1 ⟨rfl, h1, h2, h3⟩
  have HH := Lib.hid h1
  have HB := Lib.hid (h2.blk HB.out hgw (by decide))
  have HO := Lib.hid (HO.out.trans h2)
  have HW := Lib.hid (HW.out.trans h3)
  clear h1 h2 h3 c12 c13 c14 c15
  go_wp2_with fail
  refine bodyPost_ret (results_none rfl _ _ _) rfl ?_
  exact ⟨_, rfl, HH.out, HO.out, HW.out⟩

set_option maxRecDepth 100000 in
set_option maxHeartbeats 2000000 in
theorem wfields_16 (w : World) (base g : Nat) (ws : List (List UInt8)) (bad : Bool) (h : Wri w base g ws bad) (q : Req) (hop : q.op = 16) (hq : q.ok) (_ht : q.txt.length ≤ 1000) (hl : ws.length ≤ 1000) :
    Calls Tryz.prog 70 #[.pointer (some ⟨g, 0, none⟩), .agg (rqC q)] w (FPut w base g (ws ++ fieldsW q)) := by
  have he : fieldsW q = nsW [q.ax, q.ay] := by simp [fieldsW, hop]
  have hlt := h.lt
  have hbw : base ≤ w.heap.size := by omega
  have hgw : w.heap.size ≠ g := by omega
  have hq1 : q.other < 18446744073709551616 := Nat.lt_of_lt_of_eq hq.2.1 (by decide)
  have hq2 : q.area < 18446744073709551616 := Nat.lt_of_lt_of_eq hq.2.2 (by decide)
  have HH := Lib.hid (h.keep ((Below.refl w.heap.size w).alloc (Nat.le_refl _) (.cells (rqC q) 60)))
  have HW := Lib.hid ((Below.refl base w).alloc hbw (.cells (rqC q) 60))
  have HO := Lib.hid ((Lib.OthersKept.refl 9 (some g) w).alloc (.cells (rqC q) 60))
  have HB := Lib.hid (Blk.new w 60 (rqC q))
  have c0 := (show World.cell? _ ⟨w.heap.size, 0, none⟩ = some (.int .i64 q.op) from HB.out.is 0 rfl)
  obtain ⟨w0, hst⟩ : ∃ w0, w.alloc (.cells (rqC q) 60) = w0 := ⟨_, rfl⟩
  rw [hst] at HH HW HO HB c0
  rw [hop] at c0
  have HE := Lib.hid he
  have HQ := Lib.hid hq1
  have HQ2 := Lib.hid hq2
  clear h he hop hq hq1 hq2
  rw [HE.out]
  go_enter Tryz.func70, Tryz.ntmps70
  have c20 := (show World.cell? _ ⟨w.heap.size, 20, none⟩ = some (.int .i64 q.ax) from HB.out.is 20 rfl)
  have c21 := (show World.cell? _ ⟨w.heap.size, 21, none⟩ = some (.int .i64 q.ay) from HB.out.is 21 rfl)
  go_wp2_with fail
  refine (numbers_new _ base g _ _ HH.out [q.ax, q.ay] _ rfl _ _ rfl rfl (by simp; omega)).mono ?_
  rintro e w1 ⟨rfl, h1, h2, h3⟩
  have HH := Lib.hid h1
  have HB := Lib.hid (h2.blk HB.out hgw (by decide))
  have HO := Lib.hid (HO.out.trans h2)
  have HW := Lib.hid (HW.out.trans h3)
  clear h1 h2 h3 c20 c21
  go_wp2_with fail
  refine bodyPost_ret (results_none rfl _ _ _) rfl ?_
  exact ⟨_, rfl, HH.out, HO.out, HW.out⟩

set_option maxRecDepth 100000 in
set_option maxHeartbeats 2000000 in
theorem wfields_17 (w : World) (base g : Nat) (ws : List (List UInt8)) (bad : Bool) (h : Wri w base g ws bad) (q : Req) (hop : q.op = 17) (hq : q.ok) (_ht : q.txt.length ≤ 1000) (hl : ws.length ≤ 1000) :
    Calls Tryz.prog 70 #[.pointer (some ⟨g, 0, none⟩), .agg (rqC q)] w (FPut w base g (ws ++ fieldsW q)) := by
  have he : fieldsW q = nsW [q.frm] := by simp [fieldsW, hop]
  have hlt := h.lt
  have hbw : base ≤ w.heap.size := by omega
  have hgw : w.heap.size ≠ g := by omega
  have hq1 : q.other < 18446744073709551616 := Nat.lt_of_lt_of_eq hq.2.1 (by decide)
  have hq2 : q.area < 18446744073709551616 := Nat.lt_of_lt_of_eq hq.2.2 (by decide)
  have HH := Lib.hid (h.keep ((Below.refl w.heap.size w).alloc (Nat.le_refl _) (.cells (rqC q) 60)))
  have HW := Lib.hid ((Below.refl base w).alloc hbw (.cells (rqC q) 60))
  have HO := Lib.hid ((Lib.OthersKept.refl 9 (some g) w).alloc (.cells (rqC q) 60))
  have HB := Lib.hid (Blk.new w 60 (rqC q))
  have c0 := (show World.cell? _ ⟨w.heap.size, 0, none⟩ = some (.int .i64 q.op) from HB.out.is 0 rfl)
  obtain ⟨w0, hst⟩ : ∃ w0, w.alloc (.cells (rqC q) 60) = w0 := ⟨_, rfl⟩
  rw [hst] at HH HW HO HB c0
  rw [hop] at c0
  have HE := Lib.hid he
  have HQ := Lib.hid hq1
  have HQ2 := Lib.hid hq2
  clear h he hop hq hq1 hq2
  rw [HE.out]
  go_enter Tryz.func70, Tryz.ntmps70
  have c23 := (show World.cell? _ ⟨w.heap.size, 23, none⟩ = some (.int .i64 q.frm) from HB.out.is 23 rfl)
  go_wp2_with fail
  refine (numbers_new _ base g _ _ HH.out [q.frm] _ rfl _ _ rfl rfl (by simp; omega)).mono ?_
  rintro e w1 ⟨rfl, h1, h2, h3⟩
  have HH := Lib.hid h1
  have HB := Lib.hid (h2.blk HB.out hgw (by decide))
  have HO := Lib.hid (HO.out.trans h2)
  have HW := Lib.hid (HW.out.trans h3)
  clear h1 h2 h3 c23
  go_wp2_with fail
  refine bodyPost_ret (results_none rfl _ _ _) rfl ?_
  exact ⟨_, rfl, HH.out, HO.out, HW.out⟩

set_option maxRecDepth 100000 in
set_option maxHeartbeats 2000000 in
theorem wfields_19 (w : World) (base g : Nat) (ws : List (List UInt8)) (bad : Bool) (h : Wri w base g ws bad) (q : Req) (hop : q.op = 19) (hq : q.ok) (_ht : q.txt.length ≤ 1000) (hl : ws.length ≤ 1000) :
    Calls Tryz.prog 70 #[.pointer (some ⟨g, 0, none⟩), .agg (rqC q)] w (FPut w base g (ws ++ fieldsW q)) := by
  have he : fieldsW q = nsW [q.whom, q.quota] := by simp [fieldsW, hop]
  have hlt := h.lt
  have hbw : base ≤ w.heap.size := by omega
  have hgw : w.heap.size ≠ g := by omega
  have hq1 : q.other < 18446744073709551616 := Nat.lt_of_lt_of_eq hq.2.1 (by decide)
  have hq2 : q.area < 18446744073709551616 := Nat.lt_of_lt_of_eq hq.2.2 (by decide)
  have HH := Lib.hid (h.keep ((Below.refl w.heap.size w).alloc (Nat.le_refl _) (.cells (rqC q) 60)))
  have HW := Lib.hid ((Below.refl base w).alloc hbw (.cells (rqC q) 60))
  have HO := Lib.hid ((Lib.OthersKept.refl 9 (some g) w).alloc (.cells (rqC q) 60))
  have HB := Lib.hid (Blk.new w 60 (rqC q))
  have c0 := (show World.cell? _ ⟨w.heap.size, 0, none⟩ = some (.int .i64 q.op) from HB.out.is 0 rfl)
  obtain ⟨w0, hst⟩ : ∃ w0, w.alloc (.cells (rqC q) 60) = w0 := ⟨_, rfl⟩
  rw [hst] at HH HW HO HB c0
  rw [hop] at c0
  have HE := Lib.hid he
  have HQ := Lib.hid hq1
  have HQ2 := Lib.hid hq2
  clear h he hop hq hq1 hq2
  rw [HE.out]
  go_enter Tryz.func70, Tryz.ntmps70
  have c5 := (show World.cell? _ ⟨w.heap.size, 5, none⟩ = some (.int .i64 q.whom) from HB.out.is 5 rfl)
  have c8 := (show World.cell? _ ⟨w.heap.size, 8, none⟩ = some (.int .i64 q.quota) from HB.out.is 8 rfl)
  go_wp2_with fail
  refine (numbers_new _ base g _ _ HH.out [q.whom, q.quota] _ rfl _ _ rfl rfl (by simp; omega)).mono ?_
  rintro e w1 ⟨rfl, h1, h2, h3⟩
  have HH := Lib.hid h1
  have HB := Lib.hid (h2.blk HB.out hgw (by decide))
  have HO := Lib.hid (HO.out.trans h2)
  have HW := Lib.hid (HW.out.trans h3)
  clear h1 h2 h3 c5 c8
  go_wp2_with fail
  refine bodyPost_ret (results_none rfl _ _ _) rfl ?_
  exact ⟨_, rfl, HH.out, HO.out, HW.out⟩

set_option maxRecDepth 100000 in
set_option maxHeartbeats 2000000 in
theorem wfields_9 (w : World) (base g : Nat) (ws : List (List UInt8)) (bad : Bool) (h : Wri w base g ws bad) (q : Req) (hop : q.op = 9)  :
    Calls Tryz.prog 70 #[.pointer (some ⟨g, 0, none⟩), .agg (rqC q)] w (FPut w base g (ws ++ fieldsW q)) := by
  have he : fieldsW q = [] := by simp [fieldsW, hop]
  have hlt := h.lt
  have hbw : base ≤ w.heap.size := by omega
  have HH := Lib.hid (h.keep ((Below.refl w.heap.size w).alloc (Nat.le_refl _) (.cells (rqC q) 60)))
  have HW := Lib.hid ((Below.refl base w).alloc hbw (.cells (rqC q) 60))
  have HO := Lib.hid ((Lib.OthersKept.refl 9 (some g) w).alloc (.cells (rqC q) 60))
  have HB := Lib.hid (Blk.new w 60 (rqC q))
  have c0 := (show World.cell? _ ⟨w.heap.size, 0, none⟩ = some (.int .i64 q.op) from HB.out.is 0 rfl)
  obtain ⟨w0, hst⟩ : ∃ w0, w.alloc (.cells (rqC q) 60) = w0 := ⟨_, rfl⟩
  rw [hst] at HH HW HO HB c0
  rw [hop] at c0
  have HE := Lib.hid he
  clear h he hop
  rw [HE.out]
  go_enter Tryz.func70, Tryz.ntmps70
  go_wp2_with fail
  refine bodyPost_ret (results_none rfl _ _ _) rfl ?_
  rw [List.append_nil]
  exact ⟨_, rfl, HH.out, HO.out, HW.out⟩

set_option maxRecDepth 100000 in
set_option maxHeartbeats 2000000 in
theorem wfields_10 (w : World) (base g : Nat) (ws : List (List UInt8)) (bad : Bool) (h : Wri w base g ws bad) (q : Req) (hop : q.op = 10)  :
    Calls Tryz.prog 70 #[.pointer (some ⟨g, 0, none⟩), .agg (rqC q)] w (FPut w base g (ws ++ fieldsW q)) := by
  have he : fieldsW q = [] := by simp [fieldsW, hop]
  have hlt := h.lt
  have hbw : base ≤ w.heap.size := by omega
  have HH := Lib.hid (h.keep ((Below.refl w.heap.size w).alloc (Nat.le_refl _) (.cells (rqC q) 60)))
  have HW := Lib.hid ((Below.refl base w).alloc hbw (.cells (rqC q) 60))
  have HO := Lib.hid ((Lib.OthersKept.refl 9 (some g) w).alloc (.cells (rqC q) 60))
  have HB := Lib.hid (Blk.new w 60 (rqC q))
  have c0 := (show World.cell? _ ⟨w.heap.size, 0, none⟩ = some (.int .i64 q.op) from HB.out.is 0 rfl)
  obtain ⟨w0, hst⟩ : ∃ w0, w.alloc (.cells (rqC q) 60) = w0 := ⟨_, rfl⟩
  rw [hst] at HH HW HO HB c0
  rw [hop] at c0
  have HE := Lib.hid he
  clear h he hop
  rw [HE.out]
  go_enter Tryz.func70, Tryz.ntmps70
  go_wp2_with fail
  refine bodyPost_ret (results_none rfl _ _ _) rfl ?_
  rw [List.append_nil]
  exact ⟨_, rfl, HH.out, HO.out, HW.out⟩

set_option maxRecDepth 100000 in
set_option maxHeartbeats 2000000 in
theorem wfields_11 (w : World) (base g : Nat) (ws : List (List UInt8)) (bad : Bool) (h : Wri w base g ws bad) (q : Req) (hop : q.op = 11)  :
    Calls Tryz.prog 70 #[.pointer (some ⟨g, 0, none⟩), .agg (rqC q)] w (FPut w base g (ws ++ fieldsW q)) := by
  have he : fieldsW q = [] := by simp [fieldsW, hop]
  have hlt := h.lt
  have hbw : base ≤ w.heap.size := by omega
  have HH := Lib.hid (h.keep ((Below.refl w.heap.size w).alloc (Nat.le_refl _) (.cells (rqC q) 60)))
  have HW := Lib.hid ((Below.refl base w).alloc hbw (.cells (rqC q) 60))
  have HO := Lib.hid ((Lib.OthersKept.refl 9 (some g) w).alloc (.cells (rqC q) 60))
  have HB := Lib.hid (Blk.new w 60 (rqC q))
  have c0 := (show World.cell? _ ⟨w.heap.size, 0, none⟩ = some (.int .i64 q.op) from HB.out.is 0 rfl)
  obtain ⟨w0, hst⟩ : ∃ w0, w.alloc (.cells (rqC q) 60) = w0 := ⟨_, rfl⟩
  rw [hst] at HH HW HO HB c0
  rw [hop] at c0
  have HE := Lib.hid he
  clear h he hop
  rw [HE.out]
  go_enter Tryz.func70, Tryz.ntmps70
  go_wp2_with fail
  refine bodyPost_ret (results_none rfl _ _ _) rfl ?_
  rw [List.append_nil]
  exact ⟨_, rfl, HH.out, HO.out, HW.out⟩

set_option maxRecDepth 100000 in
set_option maxHeartbeats 2000000 in
theorem wfields_12 (w : World) (base g : Nat) (ws : List (List UInt8)) (bad : Bool) (h : Wri w base g ws bad) (q : Req) (hop : q.op = 12)  :
    Calls Tryz.prog 70 #[.pointer (some ⟨g, 0, none⟩), .agg (rqC q)] w (FPut w base g (ws ++ fieldsW q)) := by
  have he : fieldsW q = [] := by simp [fieldsW, hop]
  have hlt := h.lt
  have hbw : base ≤ w.heap.size := by omega
  have HH := Lib.hid (h.keep ((Below.refl w.heap.size w).alloc (Nat.le_refl _) (.cells (rqC q) 60)))
  have HW := Lib.hid ((Below.refl base w).alloc hbw (.cells (rqC q) 60))
  have HO := Lib.hid ((Lib.OthersKept.refl 9 (some g) w).alloc (.cells (rqC q) 60))
  have HB := Lib.hid (Blk.new w 60 (rqC q))
  have c0 := (show World.cell? _ ⟨w.heap.size, 0, none⟩ = some (.int .i64 q.op) from HB.out.is 0 rfl)
  obtain ⟨w0, hst⟩ : ∃ w0, w.alloc (.cells (rqC q) 60) = w0 := ⟨_, rfl⟩
  rw [hst] at HH HW HO HB c0
  rw [hop] at c0
  have HE := Lib.hid he
  clear h he hop
  rw [HE.out]
  go_enter Tryz.func70, Tryz.ntmps70
  go_wp2_with fail
  refine bodyPost_ret (results_none rfl _ _ _) rfl ?_
  rw [List.append_nil]
  exact ⟨_, rfl, HH.out, HO.out, HW.out⟩

set_option maxRecDepth 100000 in
set_option maxHeartbeats 2000000 in
theorem wfields_18 (w : World) (base g : Nat) (ws : List (List UInt8)) (bad : Bool) (h : Wri w base g ws bad) (q : Req) (hop : q.op = 18)  :
    Calls Tryz.prog 70 #[.pointer (some ⟨g, 0, none⟩), .agg (rqC q)] w (FPut w base g (ws ++ fieldsW q)) := by
  have he : fieldsW q = [] := by simp [fieldsW, hop]
  have hlt := h.lt
  have hbw : base ≤ w.heap.size := by omega
  have HH := Lib.hid (h.keep ((Below.refl w.heap.size w).alloc (Nat.le_refl _) (.cells (rqC q) 60)))
  have HW := Lib.hid ((Below.refl base w).alloc hbw (.cells (rqC q) 60))
  have HO := Lib.hid ((Lib.OthersKept.refl 9 (some g) w).alloc (.cells (rqC q) 60))
  have HB := Lib.hid (Blk.new w 60 (rqC q))
  have c0 := (show World.cell? _ ⟨w.heap.size, 0, none⟩ = some (.int .i64 q.op) from HB.out.is 0 rfl)
  obtain ⟨w0, hst⟩ : ∃ w0, w.alloc (.cells (rqC q) 60) = w0 := ⟨_, rfl⟩
  rw [hst] at HH HW HO HB c0
  rw [hop] at c0
  have HE := Lib.hid he
  clear h he hop
  rw [HE.out]
  go_enter Tryz.func70, Tryz.ntmps70
  go_wp2_with fail
  refine bodyPost_ret (results_none rfl _ _ _) rfl ?_
  rw [List.append_nil]
  exact ⟨_, rfl, HH.out, HO.out, HW.out⟩

theorem wfields_ok (w : World) (base g : Nat) (ws : List (List UInt8)) (bad : Bool) (h : Wri w base g ws bad) (q : Req) (hop : isOp q.op = true) (hq : q.ok) (ht : q.txt.length ≤ 1000) (hl : ws.length ≤ 1000) :
    Calls Tryz.prog 70 #[.pointer (some ⟨g, 0, none⟩), .agg (rqC q)] w (FPut w base g (ws ++ fieldsW q)) := by
  rcases isOp_cases hop with e | e | e | e | e | e | e | e | e | e | e | e | e | e | e | e | e | e | e
  · exact wfields_1 w base g ws bad h q e hq ht hl
  · exact wfields_2 w base g ws bad h q e hq ht hl
  · exact wfields_3 w base g ws bad h q e hq ht hl
  · exact wfields_4 w base g ws bad h q e hq ht hl
  · exact wfields_5 w base g ws bad h q e hq ht hl
  · exact wfields_6 w base g ws bad h q e hq ht hl
  · exact wfields_7 w base g ws bad h q e hq ht hl
  · exact wfields_8 w base g ws bad h q e hq ht hl
  · exact wfields_9 w base g ws bad h q e
  · exact wfields_10 w base g ws bad h q e
  · exact wfields_11 w base g ws bad h q e
  · exact wfields_12 w base g ws bad h q e
  · exact wfields_13 w base g ws bad h q e hq ht hl
  · exact wfields_14 w base g ws bad h q e hq ht hl
  · exact wfields_15 w base g ws bad h q e hq ht hl
  · exact wfields_16 w base g ws bad h q e hq ht hl
  · exact wfields_17 w base g ws bad h q e hq ht hl
  · exact wfields_18 w base g ws bad h q e
  · exact wfields_19 w base g ws bad h q e hq ht hl
end Go.Proofs.YtldjgpnbkbmgoaaGreatDoor
