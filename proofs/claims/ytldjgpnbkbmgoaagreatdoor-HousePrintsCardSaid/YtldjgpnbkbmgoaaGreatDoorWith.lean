/-
  The reference's With, an operation each. Conditions: as each states.
  PRINTED BY genwith.py.
-/
import Derived.Test.YtldjgpnbkbmgoaaGreatDoorRefC
namespace Go.Proofs.YtldjgpnbkbmgoaaGreatDoor
open Go.RowKit Go.Lib

theorem Lay.setCell {w : World} {b off : Nat} {xs : List Value} (h : Lay w b off xs) {p : Addr} (hp : b ≠ p.block) (u : Value) : Lay (w.setCell p u) b off xs := h.of_heap (Below.heap_setCell w p u b hp)
theorem Lay.below {w w' : World} {b off B : Nat} {xs : List Value} (h : Lay w b off xs) (hb : Below B w w') (hlt : b < B) : Lay w' b off xs := h.of_heap (hb.block b hlt)
def WPost (w : World) (q : Req) (e : Ending) (w' : World) : Prop := e = .returned (.agg (rqC q)) ∧ Below w.heap.size w w'
theorem Sl.head8 {w : World} {B : Nat} {s : Value} {l : List Nat} (h : Sl u8C w B s l) (h0 : 0 < l.length) : ∃ b off n c, s = .slice (some ⟨b, off, none⟩) n c ∧ n = l.length ∧ n ≤ c ∧ c ≤ maxLen ∧ b < B ∧ Lay w b off (l.flatMap u8C) := by
  obtain ⟨A, ca, rfl, h1, h2, h3⟩ := h
  obtain ⟨b, off, rfl, hb, hl⟩ := h3 h0
  exact ⟨b, off, _, ca, rfl, rfl, h1, h2, hb, hl⟩

set_option maxRecDepth 100000 in
set_option maxHeartbeats 2000000 in
theorem with_1 (q : Req) (hop : q.op = 1) (l : List Nat) (t : List UInt8) (a0 a1 a2 a3 : Nat) (s : Value) (w : World) (hs : Sl u8C w w.heap.size s l) (l0 : l[0]? = some a0) (l1 : l[1]? = some a1) (l2 : l[2]? = some a2) (l3 : l[3]? = some a3) (h0 : a0 < 4294967296) (h1 : a1 < 4294967296) (h2 : a2 < 4294967296) (h3 : a3 < 4294967296) :
    Calls Tryz.prog 107 #[.agg (rqC q), s, strV t] w (WPost w { q with whom := a0, role := a1, tier := a2, quota := a3 }) := by
  have hnl : 4 ≤ l.length := by have := (List.getElem?_eq_some_iff.1 l3).1; omega
  have HSL := Lib.hid hs
  obtain ⟨b, off, n, ca, rfl, hn, g1, g2, hb, hlay⟩ := hs.head8 (by omega)
  rw [← hn] at hnl
  have HN := Lib.hid hn
  unfold maxLen at g2
  clear hs hn
  have hb1 := Blk.new w 60 (rqC q)
  have hW1 := (Below.refl w.heap.size w).alloc (Nat.le_refl _) (.cells (rqC q) 60)
  have hz1 : (w.alloc (.cells (rqC q) 60)).heap.size = w.heap.size + 1 := by simp
  obtain ⟨w1, hst1⟩ : ∃ w1, w.alloc (.cells (rqC q) 60) = w1 := ⟨_, rfl⟩
  rw [hst1] at hb1 hW1 hz1
  have hr2 := Blk.new w1 60 zeroC
  rw [hz1] at hr2
  have hb2 := hb1.alloc (.cells zeroC 60)
  have hW2 := hW1.alloc (by omega) (.cells zeroC 60)
  obtain ⟨w2, hst2⟩ : ∃ w2, w1.alloc (.cells zeroC 60) = w2 := ⟨_, rfl⟩
  rw [hst2] at hr2 hb2 hW2
  have HR2 := Lib.hid hr2
  have HB2 := Lib.hid (show Blk w2 w.heap.size 60 (rqC q) from hb2)
  have HW2 := Lib.hid hW2
  have c0 : w2.cell? ⟨w.heap.size, 0, none⟩ = some (.int .i64 1) := by rw [← hop]; exact hb2.is 0 rfl
  have HL2 := Lib.hid (hlay.below hW2 hb)
  clear hb1 hW1 hr2 hb2 hW2 hlay hop
  have hi0 : 0 < n := by omega
  have hj0 : (0 : Int) < (n : Int) := by omega
  have hw0 := wrap_small h0
  have hi1 : 1 < n := by omega
  have hj1 : (1 : Int) < (n : Int) := by omega
  have hw1 := wrap_small h1
  have hi2 : 2 < n := by omega
  have hj2 : (2 : Int) < (n : Int) := by omega
  have hw2 := wrap_small h2
  have hi3 : 3 < n := by omega
  have hj3 : (3 : Int) < (n : Int) := by omega
  have hw3 := wrap_small h3
  have s2_0 := u8_at0 HL2.out  l0
  have f2 := HB2.out.frozen 5
  have d2 := HB2.out.is 5 rfl
  have hB3 : Blk (w2.setCell ⟨w.heap.size, 5, none⟩ (.int .i64 (a0 : Nat))) w.heap.size 60 (rqC { q with whom := a0 }) := HB2.out.put 5 (.int .i64 (a0 : Nat))
  have hR3 := HR2.out.far (p := ⟨w.heap.size, 5, none⟩) (by simp) (.int .i64 (a0 : Nat))
  have hW3 := HW2.out.setCell (p := ⟨w.heap.size, 5, none⟩) (Nat.le_refl _) (.int .i64 (a0 : Nat))
  have hL3 := HL2.out.setCell (p := ⟨w.heap.size, 5, none⟩) (by simp; omega) (.int .i64 (a0 : Nat))
  obtain ⟨w3, hst3⟩ : ∃ w3, w2.setCell ⟨w.heap.size, 5, none⟩ (.int .i64 (a0 : Nat)) = w3 := ⟨_, rfl⟩
  rw [hst3] at hB3 hR3 hW3 hL3
  have HB3 := Lib.hid hB3
  have HR3 := Lib.hid hR3
  have HW3 := Lib.hid hW3
  have HL3 := Lib.hid hL3
  clear hB3 hR3 hW3 hL3
  have s3_1 := u8_at HL3.out 1 l1
  have f3 := HB3.out.frozen 6
  have d3 := HB3.out.is 6 rfl
  have hB4 : Blk (w3.setCell ⟨w.heap.size, 6, none⟩ (.int .i64 (a1 : Nat))) w.heap.size 60 (rqC { q with whom := a0, role := a1 }) := HB3.out.put 6 (.int .i64 (a1 : Nat))
  have hR4 := HR3.out.far (p := ⟨w.heap.size, 6, none⟩) (by simp) (.int .i64 (a1 : Nat))
  have hW4 := HW3.out.setCell (p := ⟨w.heap.size, 6, none⟩) (Nat.le_refl _) (.int .i64 (a1 : Nat))
  have hL4 := HL3.out.setCell (p := ⟨w.heap.size, 6, none⟩) (by simp; omega) (.int .i64 (a1 : Nat))
  obtain ⟨w4, hst4⟩ : ∃ w4, w3.setCell ⟨w.heap.size, 6, none⟩ (.int .i64 (a1 : Nat)) = w4 := ⟨_, rfl⟩
  rw [hst4] at hB4 hR4 hW4 hL4
  have HB4 := Lib.hid hB4
  have HR4 := Lib.hid hR4
  have HW4 := Lib.hid hW4
  have HL4 := Lib.hid hL4
  clear hB4 hR4 hW4 hL4
  have s4_2 := u8_at HL4.out 2 l2
  have f4 := HB4.out.frozen 7
  have d4 := HB4.out.is 7 rfl
  have hB5 : Blk (w4.setCell ⟨w.heap.size, 7, none⟩ (.int .i64 (a2 : Nat))) w.heap.size 60 (rqC { q with whom := a0, role := a1, tier := a2 }) := HB4.out.put 7 (.int .i64 (a2 : Nat))
  have hR5 := HR4.out.far (p := ⟨w.heap.size, 7, none⟩) (by simp) (.int .i64 (a2 : Nat))
  have hW5 := HW4.out.setCell (p := ⟨w.heap.size, 7, none⟩) (Nat.le_refl _) (.int .i64 (a2 : Nat))
  have hL5 := HL4.out.setCell (p := ⟨w.heap.size, 7, none⟩) (by simp; omega) (.int .i64 (a2 : Nat))
  obtain ⟨w5, hst5⟩ : ∃ w5, w4.setCell ⟨w.heap.size, 7, none⟩ (.int .i64 (a2 : Nat)) = w5 := ⟨_, rfl⟩
  rw [hst5] at hB5 hR5 hW5 hL5
  have HB5 := Lib.hid hB5
  have HR5 := Lib.hid hR5
  have HW5 := Lib.hid hW5
  have HL5 := Lib.hid hL5
  clear hB5 hR5 hW5 hL5
  have s5_3 := u8_at HL5.out 3 l3
  have f5 := HB5.out.frozen 8
  have d5 := HB5.out.is 8 rfl
  have hB6 : Blk (w5.setCell ⟨w.heap.size, 8, none⟩ (.int .i64 (a3 : Nat))) w.heap.size 60 (rqC { q with whom := a0, role := a1, tier := a2, quota := a3 }) := HB5.out.put 8 (.int .i64 (a3 : Nat))
  have hR6 := HR5.out.far (p := ⟨w.heap.size, 8, none⟩) (by simp) (.int .i64 (a3 : Nat))
  have hW6 := HW5.out.setCell (p := ⟨w.heap.size, 8, none⟩) (Nat.le_refl _) (.int .i64 (a3 : Nat))
  have hL6 := HL5.out.setCell (p := ⟨w.heap.size, 8, none⟩) (by simp; omega) (.int .i64 (a3 : Nat))
  obtain ⟨w6, hst6⟩ : ∃ w6, w5.setCell ⟨w.heap.size, 8, none⟩ (.int .i64 (a3 : Nat)) = w6 := ⟨_, rfl⟩
  rw [hst6] at hB6 hR6 hW6 hL6
  have HB6 := Lib.hid hB6
  have HR6 := Lib.hid hR6
  have HW6 := Lib.hid hW6
  have HL6 := Lib.hid hL6
  clear hB6 hR6 hW6 hL6
  go_enter Tryz.func107, Tryz.ntmps107
  go_wp2_with (first | (refine wpList_load_row rfl 60 (.tmp 3) rfl w.heap.size rfl 60 (rqC { q with whom := a0, role := a1, tier := a2, quota := a3 }) (0, 0) _ HB6.out Tryz.underlying60 rfl (rq_size _) ?_) | (refine wpList_store_row rfl 60 (.tmp 6) (.tmp 138) rfl (w.heap.size + 1) (rqC { q with whom := a0, role := a1, tier := a2, quota := a3 }) rfl rfl 60 zeroC HR6.out (rq_size _) rfl (rq_one _) ?_))
  refine bodyPost_ret (results_cell rfl _ _ (w.heap.size + 1) 60 (rqC { q with whom := a0, role := a1, tier := a2, quota := a3 }) (0, 0) _ rfl (HR6.out.row _) Tryz.underlying60 rfl (rq_size _)) rfl ?_
  exact ⟨rfl, below_setRow HW6.out (Nat.le_succ _) _⟩

set_option maxRecDepth 100000 in
set_option maxHeartbeats 2000000 in
theorem with_2 (q : Req) (hop : q.op = 2) (l : List Nat) (t : List UInt8) (a0 : Nat) (s : Value) (w : World) (hs : Sl u8C w w.heap.size s l) (l0 : l[0]? = some a0) (h0 : a0 < 4294967296) :
    Calls Tryz.prog 107 #[.agg (rqC q), s, strV t] w (WPost w { q with whom := a0 }) := by
  have hnl : 1 ≤ l.length := by have := (List.getElem?_eq_some_iff.1 l0).1; omega
  have HSL := Lib.hid hs
  obtain ⟨b, off, n, ca, rfl, hn, g1, g2, hb, hlay⟩ := hs.head8 (by omega)
  rw [← hn] at hnl
  have HN := Lib.hid hn
  unfold maxLen at g2
  clear hs hn
  have hb1 := Blk.new w 60 (rqC q)
  have hW1 := (Below.refl w.heap.size w).alloc (Nat.le_refl _) (.cells (rqC q) 60)
  have hz1 : (w.alloc (.cells (rqC q) 60)).heap.size = w.heap.size + 1 := by simp
  obtain ⟨w1, hst1⟩ : ∃ w1, w.alloc (.cells (rqC q) 60) = w1 := ⟨_, rfl⟩
  rw [hst1] at hb1 hW1 hz1
  have hr2 := Blk.new w1 60 zeroC
  rw [hz1] at hr2
  have hb2 := hb1.alloc (.cells zeroC 60)
  have hW2 := hW1.alloc (by omega) (.cells zeroC 60)
  obtain ⟨w2, hst2⟩ : ∃ w2, w1.alloc (.cells zeroC 60) = w2 := ⟨_, rfl⟩
  rw [hst2] at hr2 hb2 hW2
  have HR2 := Lib.hid hr2
  have HB2 := Lib.hid (show Blk w2 w.heap.size 60 (rqC q) from hb2)
  have HW2 := Lib.hid hW2
  have c0 : w2.cell? ⟨w.heap.size, 0, none⟩ = some (.int .i64 2) := by rw [← hop]; exact hb2.is 0 rfl
  have HL2 := Lib.hid (hlay.below hW2 hb)
  clear hb1 hW1 hr2 hb2 hW2 hlay hop
  have hi0 : 0 < n := by omega
  have hj0 : (0 : Int) < (n : Int) := by omega
  have hw0 := wrap_small h0
  have s2_0 := u8_at0 HL2.out  l0
  have f2 := HB2.out.frozen 5
  have d2 := HB2.out.is 5 rfl
  have hB3 : Blk (w2.setCell ⟨w.heap.size, 5, none⟩ (.int .i64 (a0 : Nat))) w.heap.size 60 (rqC { q with whom := a0 }) := HB2.out.put 5 (.int .i64 (a0 : Nat))
  have hR3 := HR2.out.far (p := ⟨w.heap.size, 5, none⟩) (by simp) (.int .i64 (a0 : Nat))
  have hW3 := HW2.out.setCell (p := ⟨w.heap.size, 5, none⟩) (Nat.le_refl _) (.int .i64 (a0 : Nat))
  have hL3 := HL2.out.setCell (p := ⟨w.heap.size, 5, none⟩) (by simp; omega) (.int .i64 (a0 : Nat))
  obtain ⟨w3, hst3⟩ : ∃ w3, w2.setCell ⟨w.heap.size, 5, none⟩ (.int .i64 (a0 : Nat)) = w3 := ⟨_, rfl⟩
  rw [hst3] at hB3 hR3 hW3 hL3
  have HB3 := Lib.hid hB3
  have HR3 := Lib.hid hR3
  have HW3 := Lib.hid hW3
  have HL3 := Lib.hid hL3
  clear hB3 hR3 hW3 hL3
  go_enter Tryz.func107, Tryz.ntmps107
  go_wp2_with (first | (refine wpList_load_row rfl 60 (.tmp 3) rfl w.heap.size rfl 60 (rqC { q with whom := a0 }) (0, 0) _ HB3.out Tryz.underlying60 rfl (rq_size _) ?_) | (refine wpList_store_row rfl 60 (.tmp 6) (.tmp 138) rfl (w.heap.size + 1) (rqC { q with whom := a0 }) rfl rfl 60 zeroC HR3.out (rq_size _) rfl (rq_one _) ?_))
  refine bodyPost_ret (results_cell rfl _ _ (w.heap.size + 1) 60 (rqC { q with whom := a0 }) (0, 0) _ rfl (HR3.out.row _) Tryz.underlying60 rfl (rq_size _)) rfl ?_
  exact ⟨rfl, below_setRow HW3.out (Nat.le_succ _) _⟩

set_option maxRecDepth 100000 in
set_option maxHeartbeats 2000000 in
theorem with_3 (q : Req) (hop : q.op = 3) (l : List Nat) (t : List UInt8)  (s : Value) (w : World) (_hs : Sl u8C w w.heap.size s l)   :
    Calls Tryz.prog 107 #[.agg (rqC q), s, strV t] w (WPost w { q with txt := t }) := by
  clear _hs
  have hb1 := Blk.new w 60 (rqC q)
  have hW1 := (Below.refl w.heap.size w).alloc (Nat.le_refl _) (.cells (rqC q) 60)
  have hz1 : (w.alloc (.cells (rqC q) 60)).heap.size = w.heap.size + 1 := by simp
  obtain ⟨w1, hst1⟩ : ∃ w1, w.alloc (.cells (rqC q) 60) = w1 := ⟨_, rfl⟩
  rw [hst1] at hb1 hW1 hz1
  have hr2 := Blk.new w1 60 zeroC
  rw [hz1] at hr2
  have hb2 := hb1.alloc (.cells zeroC 60)
  have hW2 := hW1.alloc (by omega) (.cells zeroC 60)
  obtain ⟨w2, hst2⟩ : ∃ w2, w1.alloc (.cells zeroC 60) = w2 := ⟨_, rfl⟩
  rw [hst2] at hr2 hb2 hW2
  have HR2 := Lib.hid hr2
  have HB2 := Lib.hid (show Blk w2 w.heap.size 60 (rqC q) from hb2)
  have HW2 := Lib.hid hW2
  have c0 : w2.cell? ⟨w.heap.size, 0, none⟩ = some (.int .i64 3) := by rw [← hop]; exact hb2.is 0 rfl
  clear hb1 hW1 hr2 hb2 hW2 hop
  have f2 := HB2.out.frozen 9
  have d2 := HB2.out.is 9 rfl
  have hB3 : Blk (w2.setCell ⟨w.heap.size, 9, none⟩ (strV t)) w.heap.size 60 (rqC { q with txt := t }) := HB2.out.put 9 (strV t)
  have hR3 := HR2.out.far (p := ⟨w.heap.size, 9, none⟩) (by simp) (strV t)
  have hW3 := HW2.out.setCell (p := ⟨w.heap.size, 9, none⟩) (Nat.le_refl _) (strV t)
  obtain ⟨w3, hst3⟩ : ∃ w3, w2.setCell ⟨w.heap.size, 9, none⟩ (strV t) = w3 := ⟨_, rfl⟩
  rw [hst3] at hB3 hR3 hW3
  have HB3 := Lib.hid hB3
  have HR3 := Lib.hid hR3
  have HW3 := Lib.hid hW3
  clear hB3 hR3 hW3
  go_enter Tryz.func107, Tryz.ntmps107
  go_wp2_with (first | (refine wpList_load_row rfl 60 (.tmp 3) rfl w.heap.size rfl 60 (rqC { q with txt := t }) (0, 0) _ HB3.out Tryz.underlying60 rfl (rq_size _) ?_) | (refine wpList_store_row rfl 60 (.tmp 6) (.tmp 138) rfl (w.heap.size + 1) (rqC { q with txt := t }) rfl rfl 60 zeroC HR3.out (rq_size _) rfl (rq_one _) ?_))
  refine bodyPost_ret (results_cell rfl _ _ (w.heap.size + 1) 60 (rqC { q with txt := t }) (0, 0) _ rfl (HR3.out.row _) Tryz.underlying60 rfl (rq_size _)) rfl ?_
  exact ⟨rfl, below_setRow HW3.out (Nat.le_succ _) _⟩

set_option maxRecDepth 100000 in
set_option maxHeartbeats 2000000 in
theorem with_4 (q : Req) (hop : q.op = 4) (l : List Nat) (t : List UInt8) (a0 a1 a2 : Nat) (s : Value) (w : World) (hs : Sl u8C w w.heap.size s l) (l0 : l[0]? = some a0) (l1 : l[1]? = some a1) (l2 : l[2]? = some a2) (h0 : a0 < 4294967296) (h1 : a1 < 4294967296) (h2 : a2 < 4294967296) :
    Calls Tryz.prog 107 #[.agg (rqC q), s, strV t] w (WPost w { q with whom := a0, rights := a1, til := a2 }) := by
  have hnl : 3 ≤ l.length := by have := (List.getElem?_eq_some_iff.1 l2).1; omega
  have HSL := Lib.hid hs
  obtain ⟨b, off, n, ca, rfl, hn, g1, g2, hb, hlay⟩ := hs.head8 (by omega)
  rw [← hn] at hnl
  have HN := Lib.hid hn
  unfold maxLen at g2
  clear hs hn
  have hb1 := Blk.new w 60 (rqC q)
  have hW1 := (Below.refl w.heap.size w).alloc (Nat.le_refl _) (.cells (rqC q) 60)
  have hz1 : (w.alloc (.cells (rqC q) 60)).heap.size = w.heap.size + 1 := by simp
  obtain ⟨w1, hst1⟩ : ∃ w1, w.alloc (.cells (rqC q) 60) = w1 := ⟨_, rfl⟩
  rw [hst1] at hb1 hW1 hz1
  have hr2 := Blk.new w1 60 zeroC
  rw [hz1] at hr2
  have hb2 := hb1.alloc (.cells zeroC 60)
  have hW2 := hW1.alloc (by omega) (.cells zeroC 60)
  obtain ⟨w2, hst2⟩ : ∃ w2, w1.alloc (.cells zeroC 60) = w2 := ⟨_, rfl⟩
  rw [hst2] at hr2 hb2 hW2
  have HR2 := Lib.hid hr2
  have HB2 := Lib.hid (show Blk w2 w.heap.size 60 (rqC q) from hb2)
  have HW2 := Lib.hid hW2
  have c0 : w2.cell? ⟨w.heap.size, 0, none⟩ = some (.int .i64 4) := by rw [← hop]; exact hb2.is 0 rfl
  have HL2 := Lib.hid (hlay.below hW2 hb)
  clear hb1 hW1 hr2 hb2 hW2 hlay hop
  have hi0 : 0 < n := by omega
  have hj0 : (0 : Int) < (n : Int) := by omega
  have hw0 := wrap_small h0
  have hi1 : 1 < n := by omega
  have hj1 : (1 : Int) < (n : Int) := by omega
  have hw1 := wrap_small h1
  have hi2 : 2 < n := by omega
  have hj2 : (2 : Int) < (n : Int) := by omega
  have hw2 := wrap_small h2
  have s2_0 := u8_at0 HL2.out  l0
  have f2 := HB2.out.frozen 5
  have d2 := HB2.out.is 5 rfl
  have hB3 : Blk (w2.setCell ⟨w.heap.size, 5, none⟩ (.int .i64 (a0 : Nat))) w.heap.size 60 (rqC { q with whom := a0 }) := HB2.out.put 5 (.int .i64 (a0 : Nat))
  have hR3 := HR2.out.far (p := ⟨w.heap.size, 5, none⟩) (by simp) (.int .i64 (a0 : Nat))
  have hW3 := HW2.out.setCell (p := ⟨w.heap.size, 5, none⟩) (Nat.le_refl _) (.int .i64 (a0 : Nat))
  have hL3 := HL2.out.setCell (p := ⟨w.heap.size, 5, none⟩) (by simp; omega) (.int .i64 (a0 : Nat))
  obtain ⟨w3, hst3⟩ : ∃ w3, w2.setCell ⟨w.heap.size, 5, none⟩ (.int .i64 (a0 : Nat)) = w3 := ⟨_, rfl⟩
  rw [hst3] at hB3 hR3 hW3 hL3
  have HB3 := Lib.hid hB3
  have HR3 := Lib.hid hR3
  have HW3 := Lib.hid hW3
  have HL3 := Lib.hid hL3
  clear hB3 hR3 hW3 hL3
  have s3_1 := u8_at HL3.out 1 l1
  have f3 := HB3.out.frozen 10
  have d3 := HB3.out.is 10 rfl
  have hB4 : Blk (w3.setCell ⟨w.heap.size, 10, none⟩ (.int .i64 (a1 : Nat))) w.heap.size 60 (rqC { q with whom := a0, rights := a1 }) := HB3.out.put 10 (.int .i64 (a1 : Nat))
  have hR4 := HR3.out.far (p := ⟨w.heap.size, 10, none⟩) (by simp) (.int .i64 (a1 : Nat))
  have hW4 := HW3.out.setCell (p := ⟨w.heap.size, 10, none⟩) (Nat.le_refl _) (.int .i64 (a1 : Nat))
  have hL4 := HL3.out.setCell (p := ⟨w.heap.size, 10, none⟩) (by simp; omega) (.int .i64 (a1 : Nat))
  obtain ⟨w4, hst4⟩ : ∃ w4, w3.setCell ⟨w.heap.size, 10, none⟩ (.int .i64 (a1 : Nat)) = w4 := ⟨_, rfl⟩
  rw [hst4] at hB4 hR4 hW4 hL4
  have HB4 := Lib.hid hB4
  have HR4 := Lib.hid hR4
  have HW4 := Lib.hid hW4
  have HL4 := Lib.hid hL4
  clear hB4 hR4 hW4 hL4
  have s4_2 := u8_at HL4.out 2 l2
  have f4 := HB4.out.frozen 16
  have d4 := HB4.out.is 16 rfl
  have hB5 : Blk (w4.setCell ⟨w.heap.size, 16, none⟩ (.int .i64 (a2 : Nat))) w.heap.size 60 (rqC { q with whom := a0, rights := a1, til := a2 }) := HB4.out.put 16 (.int .i64 (a2 : Nat))
  have hR5 := HR4.out.far (p := ⟨w.heap.size, 16, none⟩) (by simp) (.int .i64 (a2 : Nat))
  have hW5 := HW4.out.setCell (p := ⟨w.heap.size, 16, none⟩) (Nat.le_refl _) (.int .i64 (a2 : Nat))
  have hL5 := HL4.out.setCell (p := ⟨w.heap.size, 16, none⟩) (by simp; omega) (.int .i64 (a2 : Nat))
  obtain ⟨w5, hst5⟩ : ∃ w5, w4.setCell ⟨w.heap.size, 16, none⟩ (.int .i64 (a2 : Nat)) = w5 := ⟨_, rfl⟩
  rw [hst5] at hB5 hR5 hW5 hL5
  have HB5 := Lib.hid hB5
  have HR5 := Lib.hid hR5
  have HW5 := Lib.hid hW5
  have HL5 := Lib.hid hL5
  clear hB5 hR5 hW5 hL5
  go_enter Tryz.func107, Tryz.ntmps107
  go_wp2_with (first | (refine wpList_load_row rfl 60 (.tmp 3) rfl w.heap.size rfl 60 (rqC { q with whom := a0, rights := a1, til := a2 }) (0, 0) _ HB5.out Tryz.underlying60 rfl (rq_size _) ?_) | (refine wpList_store_row rfl 60 (.tmp 6) (.tmp 138) rfl (w.heap.size + 1) (rqC { q with whom := a0, rights := a1, til := a2 }) rfl rfl 60 zeroC HR5.out (rq_size _) rfl (rq_one _) ?_))
  refine bodyPost_ret (results_cell rfl _ _ (w.heap.size + 1) 60 (rqC { q with whom := a0, rights := a1, til := a2 }) (0, 0) _ rfl (HR5.out.row _) Tryz.underlying60 rfl (rq_size _)) rfl ?_
  exact ⟨rfl, below_setRow HW5.out (Nat.le_succ _) _⟩

set_option maxRecDepth 100000 in
set_option maxHeartbeats 2000000 in
theorem with_5 (q : Req) (hop : q.op = 5) (l : List Nat) (t : List UInt8) (a0 a1 a2 a3 a4 a5 a6 : Nat) (s : Value) (w : World) (hs : Sl u8C w w.heap.size s l) (l0 : l[0]? = some a0) (l1 : l[1]? = some a1) (l2 : l[2]? = some a2) (l3 : l[3]? = some a3) (l4 : l[4]? = some a4) (l5 : l[5]? = some a5) (l6 : l[6]? = some a6) (h0 : a0 < 4294967296) (h1 : a1 < 4294967296) (h2 : a2 < 4294967296) (h3 : a3 < 4294967296) (h4 : a4 < 4294967296) (h5 : a5 < 4294967296) (h6 : a6 < 4294967296) :
    Calls Tryz.prog 107 #[.agg (rqC q), s, strV t] w (WPost w { q with rights := a0, zoom := a1, x0 := a2, y0 := a3, x1 := a4, y1 := a5, til := a6 }) := by
  have hnl : 7 ≤ l.length := by have := (List.getElem?_eq_some_iff.1 l6).1; omega
  have HSL := Lib.hid hs
  obtain ⟨b, off, n, ca, rfl, hn, g1, g2, hb, hlay⟩ := hs.head8 (by omega)
  rw [← hn] at hnl
  have HN := Lib.hid hn
  unfold maxLen at g2
  clear hs hn
  have hb1 := Blk.new w 60 (rqC q)
  have hW1 := (Below.refl w.heap.size w).alloc (Nat.le_refl _) (.cells (rqC q) 60)
  have hz1 : (w.alloc (.cells (rqC q) 60)).heap.size = w.heap.size + 1 := by simp
  obtain ⟨w1, hst1⟩ : ∃ w1, w.alloc (.cells (rqC q) 60) = w1 := ⟨_, rfl⟩
  rw [hst1] at hb1 hW1 hz1
  have hr2 := Blk.new w1 60 zeroC
  rw [hz1] at hr2
  have hb2 := hb1.alloc (.cells zeroC 60)
  have hW2 := hW1.alloc (by omega) (.cells zeroC 60)
  obtain ⟨w2, hst2⟩ : ∃ w2, w1.alloc (.cells zeroC 60) = w2 := ⟨_, rfl⟩
  rw [hst2] at hr2 hb2 hW2
  have HR2 := Lib.hid hr2
  have HB2 := Lib.hid (show Blk w2 w.heap.size 60 (rqC q) from hb2)
  have HW2 := Lib.hid hW2
  have c0 : w2.cell? ⟨w.heap.size, 0, none⟩ = some (.int .i64 5) := by rw [← hop]; exact hb2.is 0 rfl
  have HL2 := Lib.hid (hlay.below hW2 hb)
  clear hb1 hW1 hr2 hb2 hW2 hlay hop
  have hi0 : 0 < n := by omega
  have hj0 : (0 : Int) < (n : Int) := by omega
  have hw0 := wrap_small h0
  have hi1 : 1 < n := by omega
  have hj1 : (1 : Int) < (n : Int) := by omega
  have hw1 := wrap_small h1
  have hi2 : 2 < n := by omega
  have hj2 : (2 : Int) < (n : Int) := by omega
  have hw2 := wrap_small h2
  have hi3 : 3 < n := by omega
  have hj3 : (3 : Int) < (n : Int) := by omega
  have hw3 := wrap_small h3
  have hi4 : 4 < n := by omega
  have hj4 : (4 : Int) < (n : Int) := by omega
  have hw4 := wrap_small h4
  have hi5 : 5 < n := by omega
  have hj5 : (5 : Int) < (n : Int) := by omega
  have hw5 := wrap_small h5
  have hi6 : 6 < n := by omega
  have hj6 : (6 : Int) < (n : Int) := by omega
  have hw6 := wrap_small h6
  have H0 := Lib.hid h0
  have H1 := Lib.hid h1
  have H2 := Lib.hid h2
  have H3 := Lib.hid h3
  have H4 := Lib.hid h4
  have H5 := Lib.hid h5
  have H6 := Lib.hid h6
  clear h0 h1 h2 h3 h4 h5 h6
  have s2_0 := u8_at0 HL2.out  l0
  have f2 := HB2.out.frozen 10
  have d2 := HB2.out.is 10 rfl
  have hB3 : Blk (w2.setCell ⟨w.heap.size, 10, none⟩ (.int .i64 (a0 : Nat))) w.heap.size 60 (rqC { q with rights := a0 }) := HB2.out.put 10 (.int .i64 (a0 : Nat))
  have hR3 := HR2.out.far (p := ⟨w.heap.size, 10, none⟩) (by simp) (.int .i64 (a0 : Nat))
  have hW3 := HW2.out.setCell (p := ⟨w.heap.size, 10, none⟩) (Nat.le_refl _) (.int .i64 (a0 : Nat))
  have hL3 := HL2.out.setCell (p := ⟨w.heap.size, 10, none⟩) (by simp; omega) (.int .i64 (a0 : Nat))
  obtain ⟨w3, hst3⟩ : ∃ w3, w2.setCell ⟨w.heap.size, 10, none⟩ (.int .i64 (a0 : Nat)) = w3 := ⟨_, rfl⟩
  rw [hst3] at hB3 hR3 hW3 hL3
  have HB3 := Lib.hid hB3
  have HR3 := Lib.hid hR3
  have HW3 := Lib.hid hW3
  have HL3 := Lib.hid hL3
  clear hB3 hR3 hW3 hL3
  have s3_1 := u8_at HL3.out 1 l1
  have f3 := HB3.out.frozen 11
  have d3 := HB3.out.is 11 rfl
  have hB4 : Blk (w3.setCell ⟨w.heap.size, 11, none⟩ (.int .i64 (a1 : Nat))) w.heap.size 60 (rqC { q with rights := a0, zoom := a1 }) := HB3.out.put 11 (.int .i64 (a1 : Nat))
  have hR4 := HR3.out.far (p := ⟨w.heap.size, 11, none⟩) (by simp) (.int .i64 (a1 : Nat))
  have hW4 := HW3.out.setCell (p := ⟨w.heap.size, 11, none⟩) (Nat.le_refl _) (.int .i64 (a1 : Nat))
  have hL4 := HL3.out.setCell (p := ⟨w.heap.size, 11, none⟩) (by simp; omega) (.int .i64 (a1 : Nat))
  obtain ⟨w4, hst4⟩ : ∃ w4, w3.setCell ⟨w.heap.size, 11, none⟩ (.int .i64 (a1 : Nat)) = w4 := ⟨_, rfl⟩
  rw [hst4] at hB4 hR4 hW4 hL4
  have HB4 := Lib.hid hB4
  have HR4 := Lib.hid hR4
  have HW4 := Lib.hid hW4
  have HL4 := Lib.hid hL4
  clear hB4 hR4 hW4 hL4
  have hmid0 : ∀ w : World, (Instr.slice 23 (.slice (some ⟨b, off, none⟩) n ca) (some (.int .i64 2)) (some (.int .i64 6)) none).run Tryz.prog w = .ok (.slice (cutA (some ⟨b, off, none⟩) ca 2 1) 4 (ca - 2)) w := fun w => run_slice_both Tryz.underlying23 Tryz.sizeOf49 w _ n ca 2 6 .i64 .i64 (by omega) (by omega)
  have HS4 := Lib.hid (HSL.out.below HW4.out)
  go_enter Tryz.func107, Tryz.ntmps107
  go_wp2_with fail
  have hmid : Sl u8C w4 w.heap.size (.slice (cutA (some ⟨b, off, none⟩) ca 2 1) 4 (ca - 2)) ((l.take 6).drop 2) := by
    have h := HS4.out
    rw [HN.out] at h
    exact h.mid u8_enc (i := 2) (j := 6) (by omega) (by rw [← HN.out]; omega)
  refine (rrect_ok ((l.take 6).drop 2) a2 a3 a4 a5 _ _ w.heap.size (by have := HW4.out.size; omega) hmid (by simp [l2]) (by simp [l3]) (by simp [l4]) (by simp [l5]) H2.out H3.out H4.out H5.out).mono ?_
  rintro e w5 ⟨rfl, hW⟩
  have HB5 := Lib.hid (HB4.out.below hW HB4.out.lt)
  have HR5 := Lib.hid (HR4.out.below hW HR4.out.lt)
  have HW5 := Lib.hid (HW4.out.trans (hW.mono HW4.out.size))
  have HL5 := Lib.hid (HL4.out.below hW (Nat.lt_of_lt_of_le hb HW4.out.size))
  clear hW
  have f5 := HB5.out.frozen 12
  have d5 := HB5.out.is 12 rfl
  have hB6 : Blk (w5.setCell ⟨w.heap.size, 12, none⟩ (.int .i64 (a2 : Nat))) w.heap.size 60 (rqC { q with rights := a0, zoom := a1, x0 := a2 }) := HB5.out.put 12 (.int .i64 (a2 : Nat))
  have hR6 := HR5.out.far (p := ⟨w.heap.size, 12, none⟩) (by simp) (.int .i64 (a2 : Nat))
  have hW6 := HW5.out.setCell (p := ⟨w.heap.size, 12, none⟩) (Nat.le_refl _) (.int .i64 (a2 : Nat))
  have hL6 := HL5.out.setCell (p := ⟨w.heap.size, 12, none⟩) (by simp; omega) (.int .i64 (a2 : Nat))
  obtain ⟨w6, hst6⟩ : ∃ w6, w5.setCell ⟨w.heap.size, 12, none⟩ (.int .i64 (a2 : Nat)) = w6 := ⟨_, rfl⟩
  rw [hst6] at hB6 hR6 hW6 hL6
  have HB6 := Lib.hid hB6
  have HR6 := Lib.hid hR6
  have HW6 := Lib.hid hW6
  have HL6 := Lib.hid hL6
  clear hB6 hR6 hW6 hL6
  have f6 := HB6.out.frozen 13
  have d6 := HB6.out.is 13 rfl
  have hB7 : Blk (w6.setCell ⟨w.heap.size, 13, none⟩ (.int .i64 (a3 : Nat))) w.heap.size 60 (rqC { q with rights := a0, zoom := a1, x0 := a2, y0 := a3 }) := HB6.out.put 13 (.int .i64 (a3 : Nat))
  have hR7 := HR6.out.far (p := ⟨w.heap.size, 13, none⟩) (by simp) (.int .i64 (a3 : Nat))
  have hW7 := HW6.out.setCell (p := ⟨w.heap.size, 13, none⟩) (Nat.le_refl _) (.int .i64 (a3 : Nat))
  have hL7 := HL6.out.setCell (p := ⟨w.heap.size, 13, none⟩) (by simp; omega) (.int .i64 (a3 : Nat))
  obtain ⟨w7, hst7⟩ : ∃ w7, w6.setCell ⟨w.heap.size, 13, none⟩ (.int .i64 (a3 : Nat)) = w7 := ⟨_, rfl⟩
  rw [hst7] at hB7 hR7 hW7 hL7
  have HB7 := Lib.hid hB7
  have HR7 := Lib.hid hR7
  have HW7 := Lib.hid hW7
  have HL7 := Lib.hid hL7
  clear hB7 hR7 hW7 hL7
  have f7 := HB7.out.frozen 14
  have d7 := HB7.out.is 14 rfl
  have hB8 : Blk (w7.setCell ⟨w.heap.size, 14, none⟩ (.int .i64 (a4 : Nat))) w.heap.size 60 (rqC { q with rights := a0, zoom := a1, x0 := a2, y0 := a3, x1 := a4 }) := HB7.out.put 14 (.int .i64 (a4 : Nat))
  have hR8 := HR7.out.far (p := ⟨w.heap.size, 14, none⟩) (by simp) (.int .i64 (a4 : Nat))
  have hW8 := HW7.out.setCell (p := ⟨w.heap.size, 14, none⟩) (Nat.le_refl _) (.int .i64 (a4 : Nat))
  have hL8 := HL7.out.setCell (p := ⟨w.heap.size, 14, none⟩) (by simp; omega) (.int .i64 (a4 : Nat))
  obtain ⟨w8, hst8⟩ : ∃ w8, w7.setCell ⟨w.heap.size, 14, none⟩ (.int .i64 (a4 : Nat)) = w8 := ⟨_, rfl⟩
  rw [hst8] at hB8 hR8 hW8 hL8
  have HB8 := Lib.hid hB8
  have HR8 := Lib.hid hR8
  have HW8 := Lib.hid hW8
  have HL8 := Lib.hid hL8
  clear hB8 hR8 hW8 hL8
  have f8 := HB8.out.frozen 15
  have d8 := HB8.out.is 15 rfl
  have hB9 : Blk (w8.setCell ⟨w.heap.size, 15, none⟩ (.int .i64 (a5 : Nat))) w.heap.size 60 (rqC { q with rights := a0, zoom := a1, x0 := a2, y0 := a3, x1 := a4, y1 := a5 }) := HB8.out.put 15 (.int .i64 (a5 : Nat))
  have hR9 := HR8.out.far (p := ⟨w.heap.size, 15, none⟩) (by simp) (.int .i64 (a5 : Nat))
  have hW9 := HW8.out.setCell (p := ⟨w.heap.size, 15, none⟩) (Nat.le_refl _) (.int .i64 (a5 : Nat))
  have hL9 := HL8.out.setCell (p := ⟨w.heap.size, 15, none⟩) (by simp; omega) (.int .i64 (a5 : Nat))
  obtain ⟨w9, hst9⟩ : ∃ w9, w8.setCell ⟨w.heap.size, 15, none⟩ (.int .i64 (a5 : Nat)) = w9 := ⟨_, rfl⟩
  rw [hst9] at hB9 hR9 hW9 hL9
  have HB9 := Lib.hid hB9
  have HR9 := Lib.hid hR9
  have HW9 := Lib.hid hW9
  have HL9 := Lib.hid hL9
  clear hB9 hR9 hW9 hL9
  have s9_6 := u8_at HL9.out 6 l6
  have f9 := HB9.out.frozen 16
  have d9 := HB9.out.is 16 rfl
  have hB10 : Blk (w9.setCell ⟨w.heap.size, 16, none⟩ (.int .i64 (a6 : Nat))) w.heap.size 60 (rqC { q with rights := a0, zoom := a1, x0 := a2, y0 := a3, x1 := a4, y1 := a5, til := a6 }) := HB9.out.put 16 (.int .i64 (a6 : Nat))
  have hR10 := HR9.out.far (p := ⟨w.heap.size, 16, none⟩) (by simp) (.int .i64 (a6 : Nat))
  have hW10 := HW9.out.setCell (p := ⟨w.heap.size, 16, none⟩) (Nat.le_refl _) (.int .i64 (a6 : Nat))
  have hL10 := HL9.out.setCell (p := ⟨w.heap.size, 16, none⟩) (by simp; omega) (.int .i64 (a6 : Nat))
  obtain ⟨w10, hst10⟩ : ∃ w10, w9.setCell ⟨w.heap.size, 16, none⟩ (.int .i64 (a6 : Nat)) = w10 := ⟨_, rfl⟩
  rw [hst10] at hB10 hR10 hW10 hL10
  have HB10 := Lib.hid hB10
  have HR10 := Lib.hid hR10
  have HW10 := Lib.hid hW10
  have HL10 := Lib.hid hL10
  clear hB10 hR10 hW10 hL10
  go_wp2_with (first | (refine wpList_load_row rfl 60 (.tmp 3) rfl w.heap.size rfl 60 (rqC { q with rights := a0, zoom := a1, x0 := a2, y0 := a3, x1 := a4, y1 := a5, til := a6 }) (0, 0) _ HB10.out Tryz.underlying60 rfl (rq_size _) ?_) | (refine wpList_store_row rfl 60 (.tmp 6) (.tmp 138) rfl (w.heap.size + 1) (rqC { q with rights := a0, zoom := a1, x0 := a2, y0 := a3, x1 := a4, y1 := a5, til := a6 }) rfl rfl 60 zeroC HR10.out (rq_size _) rfl (rq_one _) ?_))
  refine bodyPost_ret (results_cell rfl _ _ (w.heap.size + 1) 60 (rqC { q with rights := a0, zoom := a1, x0 := a2, y0 := a3, x1 := a4, y1 := a5, til := a6 }) (0, 0) _ rfl (HR10.out.row _) Tryz.underlying60 rfl (rq_size _)) rfl ?_
  exact ⟨rfl, below_setRow HW10.out (Nat.le_succ _) _⟩

set_option maxRecDepth 100000 in
set_option maxHeartbeats 2000000 in
theorem with_6 (q : Req) (hop : q.op = 6) (l : List Nat) (t : List UInt8) (a0 : Nat) (s : Value) (w : World) (hs : Sl u8C w w.heap.size s l) (l0 : l[0]? = some a0)  :
    Calls Tryz.prog 107 #[.agg (rqC q), s, strV t] w (WPost w { q with other := a0 }) := by
  have hnl : 1 ≤ l.length := by have := (List.getElem?_eq_some_iff.1 l0).1; omega
  have HSL := Lib.hid hs
  obtain ⟨b, off, n, ca, rfl, hn, g1, g2, hb, hlay⟩ := hs.head8 (by omega)
  rw [← hn] at hnl
  have HN := Lib.hid hn
  unfold maxLen at g2
  clear hs hn
  have hb1 := Blk.new w 60 (rqC q)
  have hW1 := (Below.refl w.heap.size w).alloc (Nat.le_refl _) (.cells (rqC q) 60)
  have hz1 : (w.alloc (.cells (rqC q) 60)).heap.size = w.heap.size + 1 := by simp
  obtain ⟨w1, hst1⟩ : ∃ w1, w.alloc (.cells (rqC q) 60) = w1 := ⟨_, rfl⟩
  rw [hst1] at hb1 hW1 hz1
  have hr2 := Blk.new w1 60 zeroC
  rw [hz1] at hr2
  have hb2 := hb1.alloc (.cells zeroC 60)
  have hW2 := hW1.alloc (by omega) (.cells zeroC 60)
  obtain ⟨w2, hst2⟩ : ∃ w2, w1.alloc (.cells zeroC 60) = w2 := ⟨_, rfl⟩
  rw [hst2] at hr2 hb2 hW2
  have HR2 := Lib.hid hr2
  have HB2 := Lib.hid (show Blk w2 w.heap.size 60 (rqC q) from hb2)
  have HW2 := Lib.hid hW2
  have c0 : w2.cell? ⟨w.heap.size, 0, none⟩ = some (.int .i64 6) := by rw [← hop]; exact hb2.is 0 rfl
  have HL2 := Lib.hid (hlay.below hW2 hb)
  clear hb1 hW1 hr2 hb2 hW2 hlay hop
  have hi0 : 0 < n := by omega
  have hj0 : (0 : Int) < (n : Int) := by omega
  have s2_0 := u8_at0 HL2.out  l0
  have f2 := HB2.out.frozen 17
  have d2 := HB2.out.is 17 rfl
  have hB3 : Blk (w2.setCell ⟨w.heap.size, 17, none⟩ (.int .u64 (a0 : Nat))) w.heap.size 60 (rqC { q with other := a0 }) := HB2.out.put 17 (.int .u64 (a0 : Nat))
  have hR3 := HR2.out.far (p := ⟨w.heap.size, 17, none⟩) (by simp) (.int .u64 (a0 : Nat))
  have hW3 := HW2.out.setCell (p := ⟨w.heap.size, 17, none⟩) (Nat.le_refl _) (.int .u64 (a0 : Nat))
  have hL3 := HL2.out.setCell (p := ⟨w.heap.size, 17, none⟩) (by simp; omega) (.int .u64 (a0 : Nat))
  obtain ⟨w3, hst3⟩ : ∃ w3, w2.setCell ⟨w.heap.size, 17, none⟩ (.int .u64 (a0 : Nat)) = w3 := ⟨_, rfl⟩
  rw [hst3] at hB3 hR3 hW3 hL3
  have HB3 := Lib.hid hB3
  have HR3 := Lib.hid hR3
  have HW3 := Lib.hid hW3
  have HL3 := Lib.hid hL3
  clear hB3 hR3 hW3 hL3
  go_enter Tryz.func107, Tryz.ntmps107
  go_wp2_with (first | (refine wpList_load_row rfl 60 (.tmp 3) rfl w.heap.size rfl 60 (rqC { q with other := a0 }) (0, 0) _ HB3.out Tryz.underlying60 rfl (rq_size _) ?_) | (refine wpList_store_row rfl 60 (.tmp 6) (.tmp 138) rfl (w.heap.size + 1) (rqC { q with other := a0 }) rfl rfl 60 zeroC HR3.out (rq_size _) rfl (rq_one _) ?_))
  refine bodyPost_ret (results_cell rfl _ _ (w.heap.size + 1) 60 (rqC { q with other := a0 }) (0, 0) _ rfl (HR3.out.row _) Tryz.underlying60 rfl (rq_size _)) rfl ?_
  exact ⟨rfl, below_setRow HW3.out (Nat.le_succ _) _⟩

set_option maxRecDepth 100000 in
set_option maxHeartbeats 2000000 in
theorem with_7 (q : Req) (hop : q.op = 7) (l : List Nat) (t : List UInt8) (a0 a1 : Nat) (s : Value) (w : World) (hs : Sl u8C w w.heap.size s l) (l0 : l[0]? = some a0) (l1 : l[1]? = some a1) (h0 : a0 < 4294967296) :
    Calls Tryz.prog 107 #[.agg (rqC q), s, strV t] w (WPost w { q with pk := a0, area := a1 }) := by
  have hnl : 2 ≤ l.length := by have := (List.getElem?_eq_some_iff.1 l1).1; omega
  have HSL := Lib.hid hs
  obtain ⟨b, off, n, ca, rfl, hn, g1, g2, hb, hlay⟩ := hs.head8 (by omega)
  rw [← hn] at hnl
  have HN := Lib.hid hn
  unfold maxLen at g2
  clear hs hn
  have hb1 := Blk.new w 60 (rqC q)
  have hW1 := (Below.refl w.heap.size w).alloc (Nat.le_refl _) (.cells (rqC q) 60)
  have hz1 : (w.alloc (.cells (rqC q) 60)).heap.size = w.heap.size + 1 := by simp
  obtain ⟨w1, hst1⟩ : ∃ w1, w.alloc (.cells (rqC q) 60) = w1 := ⟨_, rfl⟩
  rw [hst1] at hb1 hW1 hz1
  have hr2 := Blk.new w1 60 zeroC
  rw [hz1] at hr2
  have hb2 := hb1.alloc (.cells zeroC 60)
  have hW2 := hW1.alloc (by omega) (.cells zeroC 60)
  obtain ⟨w2, hst2⟩ : ∃ w2, w1.alloc (.cells zeroC 60) = w2 := ⟨_, rfl⟩
  rw [hst2] at hr2 hb2 hW2
  have HR2 := Lib.hid hr2
  have HB2 := Lib.hid (show Blk w2 w.heap.size 60 (rqC q) from hb2)
  have HW2 := Lib.hid hW2
  have c0 : w2.cell? ⟨w.heap.size, 0, none⟩ = some (.int .i64 7) := by rw [← hop]; exact hb2.is 0 rfl
  have HL2 := Lib.hid (hlay.below hW2 hb)
  clear hb1 hW1 hr2 hb2 hW2 hlay hop
  have hi0 : 0 < n := by omega
  have hj0 : (0 : Int) < (n : Int) := by omega
  have hw0 := wrap_small h0
  have hi1 : 1 < n := by omega
  have hj1 : (1 : Int) < (n : Int) := by omega
  have HBd := Lib.hid (show Blk w2.drew _ _ _ from HB2.out)
  have HRd := Lib.hid (show Blk w2.drew _ _ _ from HR2.out)
  have HWd := Lib.hid (below_drew HW2.out)
  have HLd := Lib.hid (show Lay w2.drew _ _ _ from HL2.out)
  go_enter Tryz.func107, Tryz.ntmps107
  go_wp2_with fail
  refine still_tail 9 (by kernel_rfl) (by kernel_rfl) ?_
  generalize w2.drew = w3 at *
  have HB3 := HBd
  have HR3 := HRd
  have HW3 := HWd
  have HL3 := HLd
  have s3_0 := u8_at0 HL3.out  l0
  have s3_1 := u8_at HL3.out 1 l1
  simp only [List.take_succ_cons, List.take_zero, List.drop_succ_cons, List.drop_zero]
  repeat still_step
  refine wpStill_nil ?_
  have f3 := HB3.out.frozen 18
  have d3 := HB3.out.is 18 rfl
  have hB4 : Blk (w3.setCell ⟨w.heap.size, 18, none⟩ (.int .i64 (a0 : Nat))) w.heap.size 60 (rqC { q with pk := a0 }) := HB3.out.put 18 (.int .i64 (a0 : Nat))
  have hR4 := HR3.out.far (p := ⟨w.heap.size, 18, none⟩) (by simp) (.int .i64 (a0 : Nat))
  have hW4 := HW3.out.setCell (p := ⟨w.heap.size, 18, none⟩) (Nat.le_refl _) (.int .i64 (a0 : Nat))
  have hL4 := HL3.out.setCell (p := ⟨w.heap.size, 18, none⟩) (by simp; omega) (.int .i64 (a0 : Nat))
  obtain ⟨w4, hst4⟩ : ∃ w4, w3.setCell ⟨w.heap.size, 18, none⟩ (.int .i64 (a0 : Nat)) = w4 := ⟨_, rfl⟩
  rw [hst4] at hB4 hR4 hW4 hL4
  have HB4 := Lib.hid hB4
  have HR4 := Lib.hid hR4
  have HW4 := Lib.hid hW4
  have HL4 := Lib.hid hL4
  clear hB4 hR4 hW4 hL4
  have f4 := HB4.out.frozen 19
  have d4 := HB4.out.is 19 rfl
  have hB5 : Blk (w4.setCell ⟨w.heap.size, 19, none⟩ (.int .u64 (a1 : Nat))) w.heap.size 60 (rqC { q with pk := a0, area := a1 }) := HB4.out.put 19 (.int .u64 (a1 : Nat))
  have hR5 := HR4.out.far (p := ⟨w.heap.size, 19, none⟩) (by simp) (.int .u64 (a1 : Nat))
  have hW5 := HW4.out.setCell (p := ⟨w.heap.size, 19, none⟩) (Nat.le_refl _) (.int .u64 (a1 : Nat))
  have hL5 := HL4.out.setCell (p := ⟨w.heap.size, 19, none⟩) (by simp; omega) (.int .u64 (a1 : Nat))
  obtain ⟨w5, hst5⟩ : ∃ w5, w4.setCell ⟨w.heap.size, 19, none⟩ (.int .u64 (a1 : Nat)) = w5 := ⟨_, rfl⟩
  rw [hst5] at hB5 hR5 hW5 hL5
  have HB5 := Lib.hid hB5
  have HR5 := Lib.hid hR5
  have HW5 := Lib.hid hW5
  have HL5 := Lib.hid hL5
  clear hB5 hR5 hW5 hL5
  go_wp2_with (first | (refine wpList_load_row rfl 60 (.tmp 3) rfl w.heap.size rfl 60 (rqC { q with pk := a0, area := a1 }) (0, 0) _ HB5.out Tryz.underlying60 rfl (rq_size _) ?_) | (refine wpList_store_row rfl 60 (.tmp 6) (.tmp 138) rfl (w.heap.size + 1) (rqC { q with pk := a0, area := a1 }) rfl rfl 60 zeroC HR5.out (rq_size _) rfl (rq_one _) ?_))
  refine bodyPost_ret (results_cell rfl _ _ (w.heap.size + 1) 60 (rqC { q with pk := a0, area := a1 }) (0, 0) _ rfl (HR5.out.row _) Tryz.underlying60 rfl (rq_size _)) rfl ?_
  exact ⟨rfl, below_setRow HW5.out (Nat.le_succ _) _⟩

set_option maxRecDepth 100000 in
set_option maxHeartbeats 2000000 in
theorem with_8 (q : Req) (hop : q.op = 8) (l : List Nat) (t : List UInt8) (a0 a1 a2 : Nat) (s : Value) (w : World) (hs : Sl u8C w w.heap.size s l) (l0 : l[0]? = some a0) (l1 : l[1]? = some a1) (l2 : l[2]? = some a2) (h0 : a0 < 4294967296) (h1 : a1 < 4294967296) (h2 : a2 < 4294967296) :
    Calls Tryz.prog 107 #[.agg (rqC q), s, strV t] w (WPost w { q with ax := a0, ay := a1, label := a2 }) := by
  have hnl : 3 ≤ l.length := by have := (List.getElem?_eq_some_iff.1 l2).1; omega
  have HSL := Lib.hid hs
  obtain ⟨b, off, n, ca, rfl, hn, g1, g2, hb, hlay⟩ := hs.head8 (by omega)
  rw [← hn] at hnl
  have HN := Lib.hid hn
  unfold maxLen at g2
  clear hs hn
  have hb1 := Blk.new w 60 (rqC q)
  have hW1 := (Below.refl w.heap.size w).alloc (Nat.le_refl _) (.cells (rqC q) 60)
  have hz1 : (w.alloc (.cells (rqC q) 60)).heap.size = w.heap.size + 1 := by simp
  obtain ⟨w1, hst1⟩ : ∃ w1, w.alloc (.cells (rqC q) 60) = w1 := ⟨_, rfl⟩
  rw [hst1] at hb1 hW1 hz1
  have hr2 := Blk.new w1 60 zeroC
  rw [hz1] at hr2
  have hb2 := hb1.alloc (.cells zeroC 60)
  have hW2 := hW1.alloc (by omega) (.cells zeroC 60)
  obtain ⟨w2, hst2⟩ : ∃ w2, w1.alloc (.cells zeroC 60) = w2 := ⟨_, rfl⟩
  rw [hst2] at hr2 hb2 hW2
  have HR2 := Lib.hid hr2
  have HB2 := Lib.hid (show Blk w2 w.heap.size 60 (rqC q) from hb2)
  have HW2 := Lib.hid hW2
  have c0 : w2.cell? ⟨w.heap.size, 0, none⟩ = some (.int .i64 8) := by rw [← hop]; exact hb2.is 0 rfl
  have HL2 := Lib.hid (hlay.below hW2 hb)
  clear hb1 hW1 hr2 hb2 hW2 hlay hop
  have hi0 : 0 < n := by omega
  have hj0 : (0 : Int) < (n : Int) := by omega
  have hw0 := wrap_small h0
  have hi1 : 1 < n := by omega
  have hj1 : (1 : Int) < (n : Int) := by omega
  have hw1 := wrap_small h1
  have hi2 : 2 < n := by omega
  have hj2 : (2 : Int) < (n : Int) := by omega
  have hw2 := wrap_small h2
  have H0 := Lib.hid h0
  have H1 := Lib.hid h1
  have H2 := Lib.hid h2
  clear h0 h1 h2
  have HS2 := Lib.hid (HSL.out.below HW2.out)
  go_enter Tryz.func107, Tryz.ntmps107
  go_wp2_with fail
  refine (rpoint_ok l a0 a1 _ _ w.heap.size (by have := HW2.out.size; omega) HS2.out l0 l1 H0.out H1.out).mono ?_
  rintro e w3 ⟨rfl, hW⟩
  have HB3 := Lib.hid (HB2.out.below hW HB2.out.lt)
  have HR3 := Lib.hid (HR2.out.below hW HR2.out.lt)
  have HW3 := Lib.hid (HW2.out.trans (hW.mono HW2.out.size))
  have HL3 := Lib.hid (HL2.out.below hW (Nat.lt_of_lt_of_le hb HW2.out.size))
  clear hW
  have f3 := HB3.out.frozen 20
  have d3 := HB3.out.is 20 rfl
  have hB4 : Blk (w3.setCell ⟨w.heap.size, 20, none⟩ (.int .i64 (a0 : Nat))) w.heap.size 60 (rqC { q with ax := a0 }) := HB3.out.put 20 (.int .i64 (a0 : Nat))
  have hR4 := HR3.out.far (p := ⟨w.heap.size, 20, none⟩) (by simp) (.int .i64 (a0 : Nat))
  have hW4 := HW3.out.setCell (p := ⟨w.heap.size, 20, none⟩) (Nat.le_refl _) (.int .i64 (a0 : Nat))
  have hL4 := HL3.out.setCell (p := ⟨w.heap.size, 20, none⟩) (by simp; omega) (.int .i64 (a0 : Nat))
  obtain ⟨w4, hst4⟩ : ∃ w4, w3.setCell ⟨w.heap.size, 20, none⟩ (.int .i64 (a0 : Nat)) = w4 := ⟨_, rfl⟩
  rw [hst4] at hB4 hR4 hW4 hL4
  have HB4 := Lib.hid hB4
  have HR4 := Lib.hid hR4
  have HW4 := Lib.hid hW4
  have HL4 := Lib.hid hL4
  clear hB4 hR4 hW4 hL4
  have f4 := HB4.out.frozen 21
  have d4 := HB4.out.is 21 rfl
  have hB5 : Blk (w4.setCell ⟨w.heap.size, 21, none⟩ (.int .i64 (a1 : Nat))) w.heap.size 60 (rqC { q with ax := a0, ay := a1 }) := HB4.out.put 21 (.int .i64 (a1 : Nat))
  have hR5 := HR4.out.far (p := ⟨w.heap.size, 21, none⟩) (by simp) (.int .i64 (a1 : Nat))
  have hW5 := HW4.out.setCell (p := ⟨w.heap.size, 21, none⟩) (Nat.le_refl _) (.int .i64 (a1 : Nat))
  have hL5 := HL4.out.setCell (p := ⟨w.heap.size, 21, none⟩) (by simp; omega) (.int .i64 (a1 : Nat))
  obtain ⟨w5, hst5⟩ : ∃ w5, w4.setCell ⟨w.heap.size, 21, none⟩ (.int .i64 (a1 : Nat)) = w5 := ⟨_, rfl⟩
  rw [hst5] at hB5 hR5 hW5 hL5
  have HB5 := Lib.hid hB5
  have HR5 := Lib.hid hR5
  have HW5 := Lib.hid hW5
  have HL5 := Lib.hid hL5
  clear hB5 hR5 hW5 hL5
  have s5_2 := u8_at HL5.out 2 l2
  have f5 := HB5.out.frozen 22
  have d5 := HB5.out.is 22 rfl
  have hB6 : Blk (w5.setCell ⟨w.heap.size, 22, none⟩ (.int .i64 (a2 : Nat))) w.heap.size 60 (rqC { q with ax := a0, ay := a1, label := a2 }) := HB5.out.put 22 (.int .i64 (a2 : Nat))
  have hR6 := HR5.out.far (p := ⟨w.heap.size, 22, none⟩) (by simp) (.int .i64 (a2 : Nat))
  have hW6 := HW5.out.setCell (p := ⟨w.heap.size, 22, none⟩) (Nat.le_refl _) (.int .i64 (a2 : Nat))
  have hL6 := HL5.out.setCell (p := ⟨w.heap.size, 22, none⟩) (by simp; omega) (.int .i64 (a2 : Nat))
  obtain ⟨w6, hst6⟩ : ∃ w6, w5.setCell ⟨w.heap.size, 22, none⟩ (.int .i64 (a2 : Nat)) = w6 := ⟨_, rfl⟩
  rw [hst6] at hB6 hR6 hW6 hL6
  have HB6 := Lib.hid hB6
  have HR6 := Lib.hid hR6
  have HW6 := Lib.hid hW6
  have HL6 := Lib.hid hL6
  clear hB6 hR6 hW6 hL6
  go_wp2_with (first | (refine wpList_load_row rfl 60 (.tmp 3) rfl w.heap.size rfl 60 (rqC { q with ax := a0, ay := a1, label := a2 }) (0, 0) _ HB6.out Tryz.underlying60 rfl (rq_size _) ?_) | (refine wpList_store_row rfl 60 (.tmp 6) (.tmp 138) rfl (w.heap.size + 1) (rqC { q with ax := a0, ay := a1, label := a2 }) rfl rfl 60 zeroC HR6.out (rq_size _) rfl (rq_one _) ?_))
  refine bodyPost_ret (results_cell rfl _ _ (w.heap.size + 1) 60 (rqC { q with ax := a0, ay := a1, label := a2 }) (0, 0) _ rfl (HR6.out.row _) Tryz.underlying60 rfl (rq_size _)) rfl ?_
  exact ⟨rfl, below_setRow HW6.out (Nat.le_succ _) _⟩

set_option maxRecDepth 100000 in
set_option maxHeartbeats 2000000 in
theorem with_9 (q : Req) (hop : q.op = 9) (l : List Nat) (t : List UInt8)  (s : Value) (w : World) (_hs : Sl u8C w w.heap.size s l)   :
    Calls Tryz.prog 107 #[.agg (rqC q), s, strV t] w (WPost w q) := by
  clear _hs
  have hb1 := Blk.new w 60 (rqC q)
  have hW1 := (Below.refl w.heap.size w).alloc (Nat.le_refl _) (.cells (rqC q) 60)
  have hz1 : (w.alloc (.cells (rqC q) 60)).heap.size = w.heap.size + 1 := by simp
  obtain ⟨w1, hst1⟩ : ∃ w1, w.alloc (.cells (rqC q) 60) = w1 := ⟨_, rfl⟩
  rw [hst1] at hb1 hW1 hz1
  have hr2 := Blk.new w1 60 zeroC
  rw [hz1] at hr2
  have hb2 := hb1.alloc (.cells zeroC 60)
  have hW2 := hW1.alloc (by omega) (.cells zeroC 60)
  obtain ⟨w2, hst2⟩ : ∃ w2, w1.alloc (.cells zeroC 60) = w2 := ⟨_, rfl⟩
  rw [hst2] at hr2 hb2 hW2
  have HR2 := Lib.hid hr2
  have HB2 := Lib.hid (show Blk w2 w.heap.size 60 (rqC q) from hb2)
  have HW2 := Lib.hid hW2
  have c0 : w2.cell? ⟨w.heap.size, 0, none⟩ = some (.int .i64 9) := by rw [← hop]; exact hb2.is 0 rfl
  clear hb1 hW1 hr2 hb2 hW2 hop
  go_enter Tryz.func107, Tryz.ntmps107
  go_wp2_with (first | (refine wpList_load_row rfl 60 (.tmp 3) rfl w.heap.size rfl 60 (rqC q) (0, 0) _ HB2.out Tryz.underlying60 rfl (rq_size _) ?_) | (refine wpList_store_row rfl 60 (.tmp 6) (.tmp 138) rfl (w.heap.size + 1) (rqC q) rfl rfl 60 zeroC HR2.out (rq_size _) rfl (rq_one _) ?_))
  refine bodyPost_ret (results_cell rfl _ _ (w.heap.size + 1) 60 (rqC q) (0, 0) _ rfl (HR2.out.row _) Tryz.underlying60 rfl (rq_size _)) rfl ?_
  exact ⟨rfl, below_setRow HW2.out (Nat.le_succ _) _⟩

set_option maxRecDepth 100000 in
set_option maxHeartbeats 2000000 in
theorem with_10 (q : Req) (hop : q.op = 10) (l : List Nat) (t : List UInt8)  (s : Value) (w : World) (_hs : Sl u8C w w.heap.size s l)   :
    Calls Tryz.prog 107 #[.agg (rqC q), s, strV t] w (WPost w q) := by
  clear _hs
  have hb1 := Blk.new w 60 (rqC q)
  have hW1 := (Below.refl w.heap.size w).alloc (Nat.le_refl _) (.cells (rqC q) 60)
  have hz1 : (w.alloc (.cells (rqC q) 60)).heap.size = w.heap.size + 1 := by simp
  obtain ⟨w1, hst1⟩ : ∃ w1, w.alloc (.cells (rqC q) 60) = w1 := ⟨_, rfl⟩
  rw [hst1] at hb1 hW1 hz1
  have hr2 := Blk.new w1 60 zeroC
  rw [hz1] at hr2
  have hb2 := hb1.alloc (.cells zeroC 60)
  have hW2 := hW1.alloc (by omega) (.cells zeroC 60)
  obtain ⟨w2, hst2⟩ : ∃ w2, w1.alloc (.cells zeroC 60) = w2 := ⟨_, rfl⟩
  rw [hst2] at hr2 hb2 hW2
  have HR2 := Lib.hid hr2
  have HB2 := Lib.hid (show Blk w2 w.heap.size 60 (rqC q) from hb2)
  have HW2 := Lib.hid hW2
  have c0 : w2.cell? ⟨w.heap.size, 0, none⟩ = some (.int .i64 10) := by rw [← hop]; exact hb2.is 0 rfl
  clear hb1 hW1 hr2 hb2 hW2 hop
  go_enter Tryz.func107, Tryz.ntmps107
  go_wp2_with (first | (refine wpList_load_row rfl 60 (.tmp 3) rfl w.heap.size rfl 60 (rqC q) (0, 0) _ HB2.out Tryz.underlying60 rfl (rq_size _) ?_) | (refine wpList_store_row rfl 60 (.tmp 6) (.tmp 138) rfl (w.heap.size + 1) (rqC q) rfl rfl 60 zeroC HR2.out (rq_size _) rfl (rq_one _) ?_))
  refine bodyPost_ret (results_cell rfl _ _ (w.heap.size + 1) 60 (rqC q) (0, 0) _ rfl (HR2.out.row _) Tryz.underlying60 rfl (rq_size _)) rfl ?_
  exact ⟨rfl, below_setRow HW2.out (Nat.le_succ _) _⟩

set_option maxRecDepth 100000 in
set_option maxHeartbeats 2000000 in
theorem with_11 (q : Req) (hop : q.op = 11) (l : List Nat) (t : List UInt8)  (s : Value) (w : World) (_hs : Sl u8C w w.heap.size s l)   :
    Calls Tryz.prog 107 #[.agg (rqC q), s, strV t] w (WPost w q) := by
  clear _hs
  have hb1 := Blk.new w 60 (rqC q)
  have hW1 := (Below.refl w.heap.size w).alloc (Nat.le_refl _) (.cells (rqC q) 60)
  have hz1 : (w.alloc (.cells (rqC q) 60)).heap.size = w.heap.size + 1 := by simp
  obtain ⟨w1, hst1⟩ : ∃ w1, w.alloc (.cells (rqC q) 60) = w1 := ⟨_, rfl⟩
  rw [hst1] at hb1 hW1 hz1
  have hr2 := Blk.new w1 60 zeroC
  rw [hz1] at hr2
  have hb2 := hb1.alloc (.cells zeroC 60)
  have hW2 := hW1.alloc (by omega) (.cells zeroC 60)
  obtain ⟨w2, hst2⟩ : ∃ w2, w1.alloc (.cells zeroC 60) = w2 := ⟨_, rfl⟩
  rw [hst2] at hr2 hb2 hW2
  have HR2 := Lib.hid hr2
  have HB2 := Lib.hid (show Blk w2 w.heap.size 60 (rqC q) from hb2)
  have HW2 := Lib.hid hW2
  have c0 : w2.cell? ⟨w.heap.size, 0, none⟩ = some (.int .i64 11) := by rw [← hop]; exact hb2.is 0 rfl
  clear hb1 hW1 hr2 hb2 hW2 hop
  go_enter Tryz.func107, Tryz.ntmps107
  go_wp2_with (first | (refine wpList_load_row rfl 60 (.tmp 3) rfl w.heap.size rfl 60 (rqC q) (0, 0) _ HB2.out Tryz.underlying60 rfl (rq_size _) ?_) | (refine wpList_store_row rfl 60 (.tmp 6) (.tmp 138) rfl (w.heap.size + 1) (rqC q) rfl rfl 60 zeroC HR2.out (rq_size _) rfl (rq_one _) ?_))
  refine bodyPost_ret (results_cell rfl _ _ (w.heap.size + 1) 60 (rqC q) (0, 0) _ rfl (HR2.out.row _) Tryz.underlying60 rfl (rq_size _)) rfl ?_
  exact ⟨rfl, below_setRow HW2.out (Nat.le_succ _) _⟩

set_option maxRecDepth 100000 in
set_option maxHeartbeats 2000000 in
theorem with_12 (q : Req) (hop : q.op = 12) (l : List Nat) (t : List UInt8)  (s : Value) (w : World) (_hs : Sl u8C w w.heap.size s l)   :
    Calls Tryz.prog 107 #[.agg (rqC q), s, strV t] w (WPost w q) := by
  clear _hs
  have hb1 := Blk.new w 60 (rqC q)
  have hW1 := (Below.refl w.heap.size w).alloc (Nat.le_refl _) (.cells (rqC q) 60)
  have hz1 : (w.alloc (.cells (rqC q) 60)).heap.size = w.heap.size + 1 := by simp
  obtain ⟨w1, hst1⟩ : ∃ w1, w.alloc (.cells (rqC q) 60) = w1 := ⟨_, rfl⟩
  rw [hst1] at hb1 hW1 hz1
  have hr2 := Blk.new w1 60 zeroC
  rw [hz1] at hr2
  have hb2 := hb1.alloc (.cells zeroC 60)
  have hW2 := hW1.alloc (by omega) (.cells zeroC 60)
  obtain ⟨w2, hst2⟩ : ∃ w2, w1.alloc (.cells zeroC 60) = w2 := ⟨_, rfl⟩
  rw [hst2] at hr2 hb2 hW2
  have HR2 := Lib.hid hr2
  have HB2 := Lib.hid (show Blk w2 w.heap.size 60 (rqC q) from hb2)
  have HW2 := Lib.hid hW2
  have c0 : w2.cell? ⟨w.heap.size, 0, none⟩ = some (.int .i64 12) := by rw [← hop]; exact hb2.is 0 rfl
  clear hb1 hW1 hr2 hb2 hW2 hop
  go_enter Tryz.func107, Tryz.ntmps107
  go_wp2_with (first | (refine wpList_load_row rfl 60 (.tmp 3) rfl w.heap.size rfl 60 (rqC q) (0, 0) _ HB2.out Tryz.underlying60 rfl (rq_size _) ?_) | (refine wpList_store_row rfl 60 (.tmp 6) (.tmp 138) rfl (w.heap.size + 1) (rqC q) rfl rfl 60 zeroC HR2.out (rq_size _) rfl (rq_one _) ?_))
  refine bodyPost_ret (results_cell rfl _ _ (w.heap.size + 1) 60 (rqC q) (0, 0) _ rfl (HR2.out.row _) Tryz.underlying60 rfl (rq_size _)) rfl ?_
  exact ⟨rfl, below_setRow HW2.out (Nat.le_succ _) _⟩

set_option maxRecDepth 100000 in
set_option maxHeartbeats 2000000 in
theorem with_13 (q : Req) (hop : q.op = 13) (l : List Nat) (t : List UInt8) (a0 a1 a2 a3 : Nat) (s : Value) (w : World) (hs : Sl u8C w w.heap.size s l) (l0 : l[0]? = some a0) (l1 : l[1]? = some a1) (l2 : l[2]? = some a2) (l3 : l[3]? = some a3) (h0 : a0 < 4294967296) (h1 : a1 < 4294967296) (h2 : a2 < 4294967296) (h3 : a3 < 4294967296) :
    Calls Tryz.prog 107 #[.agg (rqC q), s, strV t] w (WPost w { q with x0 := a0, y0 := a1, x1 := a2, y1 := a3 }) := by
  have hnl : 4 ≤ l.length := by have := (List.getElem?_eq_some_iff.1 l3).1; omega
  have HSL := Lib.hid hs
  obtain ⟨b, off, n, ca, rfl, hn, g1, g2, hb, hlay⟩ := hs.head8 (by omega)
  rw [← hn] at hnl
  have HN := Lib.hid hn
  unfold maxLen at g2
  clear hs hn
  have hb1 := Blk.new w 60 (rqC q)
  have hW1 := (Below.refl w.heap.size w).alloc (Nat.le_refl _) (.cells (rqC q) 60)
  have hz1 : (w.alloc (.cells (rqC q) 60)).heap.size = w.heap.size + 1 := by simp
  obtain ⟨w1, hst1⟩ : ∃ w1, w.alloc (.cells (rqC q) 60) = w1 := ⟨_, rfl⟩
  rw [hst1] at hb1 hW1 hz1
  have hr2 := Blk.new w1 60 zeroC
  rw [hz1] at hr2
  have hb2 := hb1.alloc (.cells zeroC 60)
  have hW2 := hW1.alloc (by omega) (.cells zeroC 60)
  obtain ⟨w2, hst2⟩ : ∃ w2, w1.alloc (.cells zeroC 60) = w2 := ⟨_, rfl⟩
  rw [hst2] at hr2 hb2 hW2
  have HR2 := Lib.hid hr2
  have HB2 := Lib.hid (show Blk w2 w.heap.size 60 (rqC q) from hb2)
  have HW2 := Lib.hid hW2
  have c0 : w2.cell? ⟨w.heap.size, 0, none⟩ = some (.int .i64 13) := by rw [← hop]; exact hb2.is 0 rfl
  have HL2 := Lib.hid (hlay.below hW2 hb)
  clear hb1 hW1 hr2 hb2 hW2 hlay hop
  have hi0 : 0 < n := by omega
  have hj0 : (0 : Int) < (n : Int) := by omega
  have hw0 := wrap_small h0
  have hi1 : 1 < n := by omega
  have hj1 : (1 : Int) < (n : Int) := by omega
  have hw1 := wrap_small h1
  have hi2 : 2 < n := by omega
  have hj2 : (2 : Int) < (n : Int) := by omega
  have hw2 := wrap_small h2
  have hi3 : 3 < n := by omega
  have hj3 : (3 : Int) < (n : Int) := by omega
  have hw3 := wrap_small h3
  have H0 := Lib.hid h0
  have H1 := Lib.hid h1
  have H2 := Lib.hid h2
  have H3 := Lib.hid h3
  clear h0 h1 h2 h3
  have HS2 := Lib.hid (HSL.out.below HW2.out)
  go_enter Tryz.func107, Tryz.ntmps107
  go_wp2_with fail
  refine (rrect_ok l a0 a1 a2 a3 _ _ w.heap.size (by have := HW2.out.size; omega) HS2.out l0 l1 l2 l3 H0.out H1.out H2.out H3.out).mono ?_
  rintro e w3 ⟨rfl, hW⟩
  have HB3 := Lib.hid (HB2.out.below hW HB2.out.lt)
  have HR3 := Lib.hid (HR2.out.below hW HR2.out.lt)
  have HW3 := Lib.hid (HW2.out.trans (hW.mono HW2.out.size))
  have HL3 := Lib.hid (HL2.out.below hW (Nat.lt_of_lt_of_le hb HW2.out.size))
  clear hW
  have f3 := HB3.out.frozen 12
  have d3 := HB3.out.is 12 rfl
  have hB4 : Blk (w3.setCell ⟨w.heap.size, 12, none⟩ (.int .i64 (a0 : Nat))) w.heap.size 60 (rqC { q with x0 := a0 }) := HB3.out.put 12 (.int .i64 (a0 : Nat))
  have hR4 := HR3.out.far (p := ⟨w.heap.size, 12, none⟩) (by simp) (.int .i64 (a0 : Nat))
  have hW4 := HW3.out.setCell (p := ⟨w.heap.size, 12, none⟩) (Nat.le_refl _) (.int .i64 (a0 : Nat))
  have hL4 := HL3.out.setCell (p := ⟨w.heap.size, 12, none⟩) (by simp; omega) (.int .i64 (a0 : Nat))
  obtain ⟨w4, hst4⟩ : ∃ w4, w3.setCell ⟨w.heap.size, 12, none⟩ (.int .i64 (a0 : Nat)) = w4 := ⟨_, rfl⟩
  rw [hst4] at hB4 hR4 hW4 hL4
  have HB4 := Lib.hid hB4
  have HR4 := Lib.hid hR4
  have HW4 := Lib.hid hW4
  have HL4 := Lib.hid hL4
  clear hB4 hR4 hW4 hL4
  have f4 := HB4.out.frozen 13
  have d4 := HB4.out.is 13 rfl
  have hB5 : Blk (w4.setCell ⟨w.heap.size, 13, none⟩ (.int .i64 (a1 : Nat))) w.heap.size 60 (rqC { q with x0 := a0, y0 := a1 }) := HB4.out.put 13 (.int .i64 (a1 : Nat))
  have hR5 := HR4.out.far (p := ⟨w.heap.size, 13, none⟩) (by simp) (.int .i64 (a1 : Nat))
  have hW5 := HW4.out.setCell (p := ⟨w.heap.size, 13, none⟩) (Nat.le_refl _) (.int .i64 (a1 : Nat))
  have hL5 := HL4.out.setCell (p := ⟨w.heap.size, 13, none⟩) (by simp; omega) (.int .i64 (a1 : Nat))
  obtain ⟨w5, hst5⟩ : ∃ w5, w4.setCell ⟨w.heap.size, 13, none⟩ (.int .i64 (a1 : Nat)) = w5 := ⟨_, rfl⟩
  rw [hst5] at hB5 hR5 hW5 hL5
  have HB5 := Lib.hid hB5
  have HR5 := Lib.hid hR5
  have HW5 := Lib.hid hW5
  have HL5 := Lib.hid hL5
  clear hB5 hR5 hW5 hL5
  have f5 := HB5.out.frozen 14
  have d5 := HB5.out.is 14 rfl
  have hB6 : Blk (w5.setCell ⟨w.heap.size, 14, none⟩ (.int .i64 (a2 : Nat))) w.heap.size 60 (rqC { q with x0 := a0, y0 := a1, x1 := a2 }) := HB5.out.put 14 (.int .i64 (a2 : Nat))
  have hR6 := HR5.out.far (p := ⟨w.heap.size, 14, none⟩) (by simp) (.int .i64 (a2 : Nat))
  have hW6 := HW5.out.setCell (p := ⟨w.heap.size, 14, none⟩) (Nat.le_refl _) (.int .i64 (a2 : Nat))
  have hL6 := HL5.out.setCell (p := ⟨w.heap.size, 14, none⟩) (by simp; omega) (.int .i64 (a2 : Nat))
  obtain ⟨w6, hst6⟩ : ∃ w6, w5.setCell ⟨w.heap.size, 14, none⟩ (.int .i64 (a2 : Nat)) = w6 := ⟨_, rfl⟩
  rw [hst6] at hB6 hR6 hW6 hL6
  have HB6 := Lib.hid hB6
  have HR6 := Lib.hid hR6
  have HW6 := Lib.hid hW6
  have HL6 := Lib.hid hL6
  clear hB6 hR6 hW6 hL6
  have f6 := HB6.out.frozen 15
  have d6 := HB6.out.is 15 rfl
  have hB7 : Blk (w6.setCell ⟨w.heap.size, 15, none⟩ (.int .i64 (a3 : Nat))) w.heap.size 60 (rqC { q with x0 := a0, y0 := a1, x1 := a2, y1 := a3 }) := HB6.out.put 15 (.int .i64 (a3 : Nat))
  have hR7 := HR6.out.far (p := ⟨w.heap.size, 15, none⟩) (by simp) (.int .i64 (a3 : Nat))
  have hW7 := HW6.out.setCell (p := ⟨w.heap.size, 15, none⟩) (Nat.le_refl _) (.int .i64 (a3 : Nat))
  have hL7 := HL6.out.setCell (p := ⟨w.heap.size, 15, none⟩) (by simp; omega) (.int .i64 (a3 : Nat))
  obtain ⟨w7, hst7⟩ : ∃ w7, w6.setCell ⟨w.heap.size, 15, none⟩ (.int .i64 (a3 : Nat)) = w7 := ⟨_, rfl⟩
  rw [hst7] at hB7 hR7 hW7 hL7
  have HB7 := Lib.hid hB7
  have HR7 := Lib.hid hR7
  have HW7 := Lib.hid hW7
  have HL7 := Lib.hid hL7
  clear hB7 hR7 hW7 hL7
  go_wp2_with (first | (refine wpList_load_row rfl 60 (.tmp 3) rfl w.heap.size rfl 60 (rqC { q with x0 := a0, y0 := a1, x1 := a2, y1 := a3 }) (0, 0) _ HB7.out Tryz.underlying60 rfl (rq_size _) ?_) | (refine wpList_store_row rfl 60 (.tmp 6) (.tmp 138) rfl (w.heap.size + 1) (rqC { q with x0 := a0, y0 := a1, x1 := a2, y1 := a3 }) rfl rfl 60 zeroC HR7.out (rq_size _) rfl (rq_one _) ?_))
  refine bodyPost_ret (results_cell rfl _ _ (w.heap.size + 1) 60 (rqC { q with x0 := a0, y0 := a1, x1 := a2, y1 := a3 }) (0, 0) _ rfl (HR7.out.row _) Tryz.underlying60 rfl (rq_size _)) rfl ?_
  exact ⟨rfl, below_setRow HW7.out (Nat.le_succ _) _⟩

set_option maxRecDepth 100000 in
set_option maxHeartbeats 2000000 in
theorem with_14 (q : Req) (hop : q.op = 14) (l : List Nat) (t : List UInt8) (a0 a1 : Nat) (s : Value) (w : World) (hs : Sl u8C w w.heap.size s l) (l0 : l[0]? = some a0) (l1 : l[1]? = some a1) (h0 : a0 < 4294967296) (h1 : a1 < 4294967296) :
    Calls Tryz.prog 107 #[.agg (rqC q), s, strV t] w (WPost w { q with ax := a0, ay := a1 }) := by
  have hnl : 2 ≤ l.length := by have := (List.getElem?_eq_some_iff.1 l1).1; omega
  have HSL := Lib.hid hs
  obtain ⟨b, off, n, ca, rfl, hn, g1, g2, hb, hlay⟩ := hs.head8 (by omega)
  rw [← hn] at hnl
  have HN := Lib.hid hn
  unfold maxLen at g2
  clear hs hn
  have hb1 := Blk.new w 60 (rqC q)
  have hW1 := (Below.refl w.heap.size w).alloc (Nat.le_refl _) (.cells (rqC q) 60)
  have hz1 : (w.alloc (.cells (rqC q) 60)).heap.size = w.heap.size + 1 := by simp
  obtain ⟨w1, hst1⟩ : ∃ w1, w.alloc (.cells (rqC q) 60) = w1 := ⟨_, rfl⟩
  rw [hst1] at hb1 hW1 hz1
  have hr2 := Blk.new w1 60 zeroC
  rw [hz1] at hr2
  have hb2 := hb1.alloc (.cells zeroC 60)
  have hW2 := hW1.alloc (by omega) (.cells zeroC 60)
  obtain ⟨w2, hst2⟩ : ∃ w2, w1.alloc (.cells zeroC 60) = w2 := ⟨_, rfl⟩
  rw [hst2] at hr2 hb2 hW2
  have HR2 := Lib.hid hr2
  have HB2 := Lib.hid (show Blk w2 w.heap.size 60 (rqC q) from hb2)
  have HW2 := Lib.hid hW2
  have c0 : w2.cell? ⟨w.heap.size, 0, none⟩ = some (.int .i64 14) := by rw [← hop]; exact hb2.is 0 rfl
  have HL2 := Lib.hid (hlay.below hW2 hb)
  clear hb1 hW1 hr2 hb2 hW2 hlay hop
  have hi0 : 0 < n := by omega
  have hj0 : (0 : Int) < (n : Int) := by omega
  have hw0 := wrap_small h0
  have hi1 : 1 < n := by omega
  have hj1 : (1 : Int) < (n : Int) := by omega
  have hw1 := wrap_small h1
  have H0 := Lib.hid h0
  have H1 := Lib.hid h1
  clear h0 h1
  have HS2 := Lib.hid (HSL.out.below HW2.out)
  go_enter Tryz.func107, Tryz.ntmps107
  go_wp2_with fail
  refine (rpoint_ok l a0 a1 _ _ w.heap.size (by have := HW2.out.size; omega) HS2.out l0 l1 H0.out H1.out).mono ?_
  rintro e w3 ⟨rfl, hW⟩
  have HB3 := Lib.hid (HB2.out.below hW HB2.out.lt)
  have HR3 := Lib.hid (HR2.out.below hW HR2.out.lt)
  have HW3 := Lib.hid (HW2.out.trans (hW.mono HW2.out.size))
  have HL3 := Lib.hid (HL2.out.below hW (Nat.lt_of_lt_of_le hb HW2.out.size))
  clear hW
  have f3 := HB3.out.frozen 20
  have d3 := HB3.out.is 20 rfl
  have hB4 : Blk (w3.setCell ⟨w.heap.size, 20, none⟩ (.int .i64 (a0 : Nat))) w.heap.size 60 (rqC { q with ax := a0 }) := HB3.out.put 20 (.int .i64 (a0 : Nat))
  have hR4 := HR3.out.far (p := ⟨w.heap.size, 20, none⟩) (by simp) (.int .i64 (a0 : Nat))
  have hW4 := HW3.out.setCell (p := ⟨w.heap.size, 20, none⟩) (Nat.le_refl _) (.int .i64 (a0 : Nat))
  have hL4 := HL3.out.setCell (p := ⟨w.heap.size, 20, none⟩) (by simp; omega) (.int .i64 (a0 : Nat))
  obtain ⟨w4, hst4⟩ : ∃ w4, w3.setCell ⟨w.heap.size, 20, none⟩ (.int .i64 (a0 : Nat)) = w4 := ⟨_, rfl⟩
  rw [hst4] at hB4 hR4 hW4 hL4
  have HB4 := Lib.hid hB4
  have HR4 := Lib.hid hR4
  have HW4 := Lib.hid hW4
  have HL4 := Lib.hid hL4
  clear hB4 hR4 hW4 hL4
  have f4 := HB4.out.frozen 21
  have d4 := HB4.out.is 21 rfl
  have hB5 : Blk (w4.setCell ⟨w.heap.size, 21, none⟩ (.int .i64 (a1 : Nat))) w.heap.size 60 (rqC { q with ax := a0, ay := a1 }) := HB4.out.put 21 (.int .i64 (a1 : Nat))
  have hR5 := HR4.out.far (p := ⟨w.heap.size, 21, none⟩) (by simp) (.int .i64 (a1 : Nat))
  have hW5 := HW4.out.setCell (p := ⟨w.heap.size, 21, none⟩) (Nat.le_refl _) (.int .i64 (a1 : Nat))
  have hL5 := HL4.out.setCell (p := ⟨w.heap.size, 21, none⟩) (by simp; omega) (.int .i64 (a1 : Nat))
  obtain ⟨w5, hst5⟩ : ∃ w5, w4.setCell ⟨w.heap.size, 21, none⟩ (.int .i64 (a1 : Nat)) = w5 := ⟨_, rfl⟩
  rw [hst5] at hB5 hR5 hW5 hL5
  have HB5 := Lib.hid hB5
  have HR5 := Lib.hid hR5
  have HW5 := Lib.hid hW5
  have HL5 := Lib.hid hL5
  clear hB5 hR5 hW5 hL5
  go_wp2_with (first | (refine wpList_load_row rfl 60 (.tmp 3) rfl w.heap.size rfl 60 (rqC { q with ax := a0, ay := a1 }) (0, 0) _ HB5.out Tryz.underlying60 rfl (rq_size _) ?_) | (refine wpList_store_row rfl 60 (.tmp 6) (.tmp 138) rfl (w.heap.size + 1) (rqC { q with ax := a0, ay := a1 }) rfl rfl 60 zeroC HR5.out (rq_size _) rfl (rq_one _) ?_))
  refine bodyPost_ret (results_cell rfl _ _ (w.heap.size + 1) 60 (rqC { q with ax := a0, ay := a1 }) (0, 0) _ rfl (HR5.out.row _) Tryz.underlying60 rfl (rq_size _)) rfl ?_
  exact ⟨rfl, below_setRow HW5.out (Nat.le_succ _) _⟩

set_option maxRecDepth 100000 in
set_option maxHeartbeats 2000000 in
theorem with_15 (q : Req) (hop : q.op = 15) (l : List Nat) (t : List UInt8) (a0 a1 a2 a3 : Nat) (s : Value) (w : World) (hs : Sl u8C w w.heap.size s l) (l0 : l[0]? = some a0) (l1 : l[1]? = some a1) (l2 : l[2]? = some a2) (l3 : l[3]? = some a3) (h0 : a0 < 4294967296) (h1 : a1 < 4294967296) (h2 : a2 < 4294967296) (h3 : a3 < 4294967296) :
    Calls Tryz.prog 107 #[.agg (rqC q), s, strV t] w (WPost w { q with x0 := a0, y0 := a1, x1 := a2, y1 := a3 }) := by
  have hnl : 4 ≤ l.length := by have := (List.getElem?_eq_some_iff.1 l3).1; omega
  have HSL := Lib.hid hs
  obtain ⟨b, off, n, ca, rfl, hn, g1, g2, hb, hlay⟩ := hs.head8 (by omega)
  rw [← hn] at hnl
  have HN := Lib.hid hn
  unfold maxLen at g2
  clear hs hn
  have hb1 := Blk.new w 60 (rqC q)
  have hW1 := (Below.refl w.heap.size w).alloc (Nat.le_refl _) (.cells (rqC q) 60)
  have hz1 : (w.alloc (.cells (rqC q) 60)).heap.size = w.heap.size + 1 := by simp
  obtain ⟨w1, hst1⟩ : ∃ w1, w.alloc (.cells (rqC q) 60) = w1 := ⟨_, rfl⟩
  rw [hst1] at hb1 hW1 hz1
  have hr2 := Blk.new w1 60 zeroC
  rw [hz1] at hr2
  have hb2 := hb1.alloc (.cells zeroC 60)
  have hW2 := hW1.alloc (by omega) (.cells zeroC 60)
  obtain ⟨w2, hst2⟩ : ∃ w2, w1.alloc (.cells zeroC 60) = w2 := ⟨_, rfl⟩
  rw [hst2] at hr2 hb2 hW2
  have HR2 := Lib.hid hr2
  have HB2 := Lib.hid (show Blk w2 w.heap.size 60 (rqC q) from hb2)
  have HW2 := Lib.hid hW2
  have c0 : w2.cell? ⟨w.heap.size, 0, none⟩ = some (.int .i64 15) := by rw [← hop]; exact hb2.is 0 rfl
  have HL2 := Lib.hid (hlay.below hW2 hb)
  clear hb1 hW1 hr2 hb2 hW2 hlay hop
  have hi0 : 0 < n := by omega
  have hj0 : (0 : Int) < (n : Int) := by omega
  have hw0 := wrap_small h0
  have hi1 : 1 < n := by omega
  have hj1 : (1 : Int) < (n : Int) := by omega
  have hw1 := wrap_small h1
  have hi2 : 2 < n := by omega
  have hj2 : (2 : Int) < (n : Int) := by omega
  have hw2 := wrap_small h2
  have hi3 : 3 < n := by omega
  have hj3 : (3 : Int) < (n : Int) := by omega
  have hw3 := wrap_small h3
  have H0 := Lib.hid h0
  have H1 := Lib.hid h1
  have H2 := Lib.hid h2
  have H3 := Lib.hid h3
  clear h0 h1 h2 h3
  have HS2 := Lib.hid (HSL.out.below HW2.out)
  go_enter Tryz.func107, Tryz.ntmps107
  go_wp2_with fail
  refine (rrect_ok l a0 a1 a2 a3 _ _ w.heap.size (by have := HW2.out.size; omega) HS2.out l0 l1 l2 l3 H0.out H1.out H2.out H3.out).mono ?_
  rintro e w3 ⟨rfl, hW⟩
  have HB3 := Lib.hid (HB2.out.below hW HB2.out.lt)
  have HR3 := Lib.hid (HR2.out.below hW HR2.out.lt)
  have HW3 := Lib.hid (HW2.out.trans (hW.mono HW2.out.size))
  have HL3 := Lib.hid (HL2.out.below hW (Nat.lt_of_lt_of_le hb HW2.out.size))
  clear hW
  have f3 := HB3.out.frozen 12
  have d3 := HB3.out.is 12 rfl
  have hB4 : Blk (w3.setCell ⟨w.heap.size, 12, none⟩ (.int .i64 (a0 : Nat))) w.heap.size 60 (rqC { q with x0 := a0 }) := HB3.out.put 12 (.int .i64 (a0 : Nat))
  have hR4 := HR3.out.far (p := ⟨w.heap.size, 12, none⟩) (by simp) (.int .i64 (a0 : Nat))
  have hW4 := HW3.out.setCell (p := ⟨w.heap.size, 12, none⟩) (Nat.le_refl _) (.int .i64 (a0 : Nat))
  have hL4 := HL3.out.setCell (p := ⟨w.heap.size, 12, none⟩) (by simp; omega) (.int .i64 (a0 : Nat))
  obtain ⟨w4, hst4⟩ : ∃ w4, w3.setCell ⟨w.heap.size, 12, none⟩ (.int .i64 (a0 : Nat)) = w4 := ⟨_, rfl⟩
  rw [hst4] at hB4 hR4 hW4 hL4
  have HB4 := Lib.hid hB4
  have HR4 := Lib.hid hR4
  have HW4 := Lib.hid hW4
  have HL4 := Lib.hid hL4
  clear hB4 hR4 hW4 hL4
  have f4 := HB4.out.frozen 13
  have d4 := HB4.out.is 13 rfl
  have hB5 : Blk (w4.setCell ⟨w.heap.size, 13, none⟩ (.int .i64 (a1 : Nat))) w.heap.size 60 (rqC { q with x0 := a0, y0 := a1 }) := HB4.out.put 13 (.int .i64 (a1 : Nat))
  have hR5 := HR4.out.far (p := ⟨w.heap.size, 13, none⟩) (by simp) (.int .i64 (a1 : Nat))
  have hW5 := HW4.out.setCell (p := ⟨w.heap.size, 13, none⟩) (Nat.le_refl _) (.int .i64 (a1 : Nat))
  have hL5 := HL4.out.setCell (p := ⟨w.heap.size, 13, none⟩) (by simp; omega) (.int .i64 (a1 : Nat))
  obtain ⟨w5, hst5⟩ : ∃ w5, w4.setCell ⟨w.heap.size, 13, none⟩ (.int .i64 (a1 : Nat)) = w5 := ⟨_, rfl⟩
  rw [hst5] at hB5 hR5 hW5 hL5
  have HB5 := Lib.hid hB5
  have HR5 := Lib.hid hR5
  have HW5 := Lib.hid hW5
  have HL5 := Lib.hid hL5
  clear hB5 hR5 hW5 hL5
  have f5 := HB5.out.frozen 14
  have d5 := HB5.out.is 14 rfl
  have hB6 : Blk (w5.setCell ⟨w.heap.size, 14, none⟩ (.int .i64 (a2 : Nat))) w.heap.size 60 (rqC { q with x0 := a0, y0 := a1, x1 := a2 }) := HB5.out.put 14 (.int .i64 (a2 : Nat))
  have hR6 := HR5.out.far (p := ⟨w.heap.size, 14, none⟩) (by simp) (.int .i64 (a2 : Nat))
  have hW6 := HW5.out.setCell (p := ⟨w.heap.size, 14, none⟩) (Nat.le_refl _) (.int .i64 (a2 : Nat))
  have hL6 := HL5.out.setCell (p := ⟨w.heap.size, 14, none⟩) (by simp; omega) (.int .i64 (a2 : Nat))
  obtain ⟨w6, hst6⟩ : ∃ w6, w5.setCell ⟨w.heap.size, 14, none⟩ (.int .i64 (a2 : Nat)) = w6 := ⟨_, rfl⟩
  rw [hst6] at hB6 hR6 hW6 hL6
  have HB6 := Lib.hid hB6
  have HR6 := Lib.hid hR6
  have HW6 := Lib.hid hW6
  have HL6 := Lib.hid hL6
  clear hB6 hR6 hW6 hL6
  have f6 := HB6.out.frozen 15
  have d6 := HB6.out.is 15 rfl
  have hB7 : Blk (w6.setCell ⟨w.heap.size, 15, none⟩ (.int .i64 (a3 : Nat))) w.heap.size 60 (rqC { q with x0 := a0, y0 := a1, x1 := a2, y1 := a3 }) := HB6.out.put 15 (.int .i64 (a3 : Nat))
  have hR7 := HR6.out.far (p := ⟨w.heap.size, 15, none⟩) (by simp) (.int .i64 (a3 : Nat))
  have hW7 := HW6.out.setCell (p := ⟨w.heap.size, 15, none⟩) (Nat.le_refl _) (.int .i64 (a3 : Nat))
  have hL7 := HL6.out.setCell (p := ⟨w.heap.size, 15, none⟩) (by simp; omega) (.int .i64 (a3 : Nat))
  obtain ⟨w7, hst7⟩ : ∃ w7, w6.setCell ⟨w.heap.size, 15, none⟩ (.int .i64 (a3 : Nat)) = w7 := ⟨_, rfl⟩
  rw [hst7] at hB7 hR7 hW7 hL7
  have HB7 := Lib.hid hB7
  have HR7 := Lib.hid hR7
  have HW7 := Lib.hid hW7
  have HL7 := Lib.hid hL7
  clear hB7 hR7 hW7 hL7
  go_wp2_with (first | (refine wpList_load_row rfl 60 (.tmp 3) rfl w.heap.size rfl 60 (rqC { q with x0 := a0, y0 := a1, x1 := a2, y1 := a3 }) (0, 0) _ HB7.out Tryz.underlying60 rfl (rq_size _) ?_) | (refine wpList_store_row rfl 60 (.tmp 6) (.tmp 138) rfl (w.heap.size + 1) (rqC { q with x0 := a0, y0 := a1, x1 := a2, y1 := a3 }) rfl rfl 60 zeroC HR7.out (rq_size _) rfl (rq_one _) ?_))
  refine bodyPost_ret (results_cell rfl _ _ (w.heap.size + 1) 60 (rqC { q with x0 := a0, y0 := a1, x1 := a2, y1 := a3 }) (0, 0) _ rfl (HR7.out.row _) Tryz.underlying60 rfl (rq_size _)) rfl ?_
  exact ⟨rfl, below_setRow HW7.out (Nat.le_succ _) _⟩

set_option maxRecDepth 100000 in
set_option maxHeartbeats 2000000 in
theorem with_16 (q : Req) (hop : q.op = 16) (l : List Nat) (t : List UInt8) (a0 a1 : Nat) (s : Value) (w : World) (hs : Sl u8C w w.heap.size s l) (l0 : l[0]? = some a0) (l1 : l[1]? = some a1) (h0 : a0 < 4294967296) (h1 : a1 < 4294967296) :
    Calls Tryz.prog 107 #[.agg (rqC q), s, strV t] w (WPost w { q with ax := a0, ay := a1 }) := by
  have hnl : 2 ≤ l.length := by have := (List.getElem?_eq_some_iff.1 l1).1; omega
  have HSL := Lib.hid hs
  obtain ⟨b, off, n, ca, rfl, hn, g1, g2, hb, hlay⟩ := hs.head8 (by omega)
  rw [← hn] at hnl
  have HN := Lib.hid hn
  unfold maxLen at g2
  clear hs hn
  have hb1 := Blk.new w 60 (rqC q)
  have hW1 := (Below.refl w.heap.size w).alloc (Nat.le_refl _) (.cells (rqC q) 60)
  have hz1 : (w.alloc (.cells (rqC q) 60)).heap.size = w.heap.size + 1 := by simp
  obtain ⟨w1, hst1⟩ : ∃ w1, w.alloc (.cells (rqC q) 60) = w1 := ⟨_, rfl⟩
  rw [hst1] at hb1 hW1 hz1
  have hr2 := Blk.new w1 60 zeroC
  rw [hz1] at hr2
  have hb2 := hb1.alloc (.cells zeroC 60)
  have hW2 := hW1.alloc (by omega) (.cells zeroC 60)
  obtain ⟨w2, hst2⟩ : ∃ w2, w1.alloc (.cells zeroC 60) = w2 := ⟨_, rfl⟩
  rw [hst2] at hr2 hb2 hW2
  have HR2 := Lib.hid hr2
  have HB2 := Lib.hid (show Blk w2 w.heap.size 60 (rqC q) from hb2)
  have HW2 := Lib.hid hW2
  have c0 : w2.cell? ⟨w.heap.size, 0, none⟩ = some (.int .i64 16) := by rw [← hop]; exact hb2.is 0 rfl
  have HL2 := Lib.hid (hlay.below hW2 hb)
  clear hb1 hW1 hr2 hb2 hW2 hlay hop
  have hi0 : 0 < n := by omega
  have hj0 : (0 : Int) < (n : Int) := by omega
  have hw0 := wrap_small h0
  have hi1 : 1 < n := by omega
  have hj1 : (1 : Int) < (n : Int) := by omega
  have hw1 := wrap_small h1
  have H0 := Lib.hid h0
  have H1 := Lib.hid h1
  clear h0 h1
  have HS2 := Lib.hid (HSL.out.below HW2.out)
  go_enter Tryz.func107, Tryz.ntmps107
  go_wp2_with fail
  refine (rpoint_ok l a0 a1 _ _ w.heap.size (by have := HW2.out.size; omega) HS2.out l0 l1 H0.out H1.out).mono ?_
  rintro e w3 ⟨rfl, hW⟩
  have HB3 := Lib.hid (HB2.out.below hW HB2.out.lt)
  have HR3 := Lib.hid (HR2.out.below hW HR2.out.lt)
  have HW3 := Lib.hid (HW2.out.trans (hW.mono HW2.out.size))
  have HL3 := Lib.hid (HL2.out.below hW (Nat.lt_of_lt_of_le hb HW2.out.size))
  clear hW
  have f3 := HB3.out.frozen 20
  have d3 := HB3.out.is 20 rfl
  have hB4 : Blk (w3.setCell ⟨w.heap.size, 20, none⟩ (.int .i64 (a0 : Nat))) w.heap.size 60 (rqC { q with ax := a0 }) := HB3.out.put 20 (.int .i64 (a0 : Nat))
  have hR4 := HR3.out.far (p := ⟨w.heap.size, 20, none⟩) (by simp) (.int .i64 (a0 : Nat))
  have hW4 := HW3.out.setCell (p := ⟨w.heap.size, 20, none⟩) (Nat.le_refl _) (.int .i64 (a0 : Nat))
  have hL4 := HL3.out.setCell (p := ⟨w.heap.size, 20, none⟩) (by simp; omega) (.int .i64 (a0 : Nat))
  obtain ⟨w4, hst4⟩ : ∃ w4, w3.setCell ⟨w.heap.size, 20, none⟩ (.int .i64 (a0 : Nat)) = w4 := ⟨_, rfl⟩
  rw [hst4] at hB4 hR4 hW4 hL4
  have HB4 := Lib.hid hB4
  have HR4 := Lib.hid hR4
  have HW4 := Lib.hid hW4
  have HL4 := Lib.hid hL4
  clear hB4 hR4 hW4 hL4
  have f4 := HB4.out.frozen 21
  have d4 := HB4.out.is 21 rfl
  have hB5 : Blk (w4.setCell ⟨w.heap.size, 21, none⟩ (.int .i64 (a1 : Nat))) w.heap.size 60 (rqC { q with ax := a0, ay := a1 }) := HB4.out.put 21 (.int .i64 (a1 : Nat))
  have hR5 := HR4.out.far (p := ⟨w.heap.size, 21, none⟩) (by simp) (.int .i64 (a1 : Nat))
  have hW5 := HW4.out.setCell (p := ⟨w.heap.size, 21, none⟩) (Nat.le_refl _) (.int .i64 (a1 : Nat))
  have hL5 := HL4.out.setCell (p := ⟨w.heap.size, 21, none⟩) (by simp; omega) (.int .i64 (a1 : Nat))
  obtain ⟨w5, hst5⟩ : ∃ w5, w4.setCell ⟨w.heap.size, 21, none⟩ (.int .i64 (a1 : Nat)) = w5 := ⟨_, rfl⟩
  rw [hst5] at hB5 hR5 hW5 hL5
  have HB5 := Lib.hid hB5
  have HR5 := Lib.hid hR5
  have HW5 := Lib.hid hW5
  have HL5 := Lib.hid hL5
  clear hB5 hR5 hW5 hL5
  go_wp2_with (first | (refine wpList_load_row rfl 60 (.tmp 3) rfl w.heap.size rfl 60 (rqC { q with ax := a0, ay := a1 }) (0, 0) _ HB5.out Tryz.underlying60 rfl (rq_size _) ?_) | (refine wpList_store_row rfl 60 (.tmp 6) (.tmp 138) rfl (w.heap.size + 1) (rqC { q with ax := a0, ay := a1 }) rfl rfl 60 zeroC HR5.out (rq_size _) rfl (rq_one _) ?_))
  refine bodyPost_ret (results_cell rfl _ _ (w.heap.size + 1) 60 (rqC { q with ax := a0, ay := a1 }) (0, 0) _ rfl (HR5.out.row _) Tryz.underlying60 rfl (rq_size _)) rfl ?_
  exact ⟨rfl, below_setRow HW5.out (Nat.le_succ _) _⟩

set_option maxRecDepth 100000 in
set_option maxHeartbeats 2000000 in
theorem with_17 (q : Req) (hop : q.op = 17) (l : List Nat) (t : List UInt8) (a0 : Nat) (s : Value) (w : World) (hs : Sl u8C w w.heap.size s l) (l0 : l[0]? = some a0) (h0 : a0 < 4294967296) :
    Calls Tryz.prog 107 #[.agg (rqC q), s, strV t] w (WPost w { q with frm := a0 }) := by
  have hnl : 1 ≤ l.length := by have := (List.getElem?_eq_some_iff.1 l0).1; omega
  have HSL := Lib.hid hs
  obtain ⟨b, off, n, ca, rfl, hn, g1, g2, hb, hlay⟩ := hs.head8 (by omega)
  rw [← hn] at hnl
  have HN := Lib.hid hn
  unfold maxLen at g2
  clear hs hn
  have hb1 := Blk.new w 60 (rqC q)
  have hW1 := (Below.refl w.heap.size w).alloc (Nat.le_refl _) (.cells (rqC q) 60)
  have hz1 : (w.alloc (.cells (rqC q) 60)).heap.size = w.heap.size + 1 := by simp
  obtain ⟨w1, hst1⟩ : ∃ w1, w.alloc (.cells (rqC q) 60) = w1 := ⟨_, rfl⟩
  rw [hst1] at hb1 hW1 hz1
  have hr2 := Blk.new w1 60 zeroC
  rw [hz1] at hr2
  have hb2 := hb1.alloc (.cells zeroC 60)
  have hW2 := hW1.alloc (by omega) (.cells zeroC 60)
  obtain ⟨w2, hst2⟩ : ∃ w2, w1.alloc (.cells zeroC 60) = w2 := ⟨_, rfl⟩
  rw [hst2] at hr2 hb2 hW2
  have HR2 := Lib.hid hr2
  have HB2 := Lib.hid (show Blk w2 w.heap.size 60 (rqC q) from hb2)
  have HW2 := Lib.hid hW2
  have c0 : w2.cell? ⟨w.heap.size, 0, none⟩ = some (.int .i64 17) := by rw [← hop]; exact hb2.is 0 rfl
  have HL2 := Lib.hid (hlay.below hW2 hb)
  clear hb1 hW1 hr2 hb2 hW2 hlay hop
  have hi0 : 0 < n := by omega
  have hj0 : (0 : Int) < (n : Int) := by omega
  have hw0 := wrap_small h0
  have s2_0 := u8_at0 HL2.out  l0
  have f2 := HB2.out.frozen 23
  have d2 := HB2.out.is 23 rfl
  have hB3 : Blk (w2.setCell ⟨w.heap.size, 23, none⟩ (.int .i64 (a0 : Nat))) w.heap.size 60 (rqC { q with frm := a0 }) := HB2.out.put 23 (.int .i64 (a0 : Nat))
  have hR3 := HR2.out.far (p := ⟨w.heap.size, 23, none⟩) (by simp) (.int .i64 (a0 : Nat))
  have hW3 := HW2.out.setCell (p := ⟨w.heap.size, 23, none⟩) (Nat.le_refl _) (.int .i64 (a0 : Nat))
  have hL3 := HL2.out.setCell (p := ⟨w.heap.size, 23, none⟩) (by simp; omega) (.int .i64 (a0 : Nat))
  obtain ⟨w3, hst3⟩ : ∃ w3, w2.setCell ⟨w.heap.size, 23, none⟩ (.int .i64 (a0 : Nat)) = w3 := ⟨_, rfl⟩
  rw [hst3] at hB3 hR3 hW3 hL3
  have HB3 := Lib.hid hB3
  have HR3 := Lib.hid hR3
  have HW3 := Lib.hid hW3
  have HL3 := Lib.hid hL3
  clear hB3 hR3 hW3 hL3
  go_enter Tryz.func107, Tryz.ntmps107
  go_wp2_with (first | (refine wpList_load_row rfl 60 (.tmp 3) rfl w.heap.size rfl 60 (rqC { q with frm := a0 }) (0, 0) _ HB3.out Tryz.underlying60 rfl (rq_size _) ?_) | (refine wpList_store_row rfl 60 (.tmp 6) (.tmp 138) rfl (w.heap.size + 1) (rqC { q with frm := a0 }) rfl rfl 60 zeroC HR3.out (rq_size _) rfl (rq_one _) ?_))
  refine bodyPost_ret (results_cell rfl _ _ (w.heap.size + 1) 60 (rqC { q with frm := a0 }) (0, 0) _ rfl (HR3.out.row _) Tryz.underlying60 rfl (rq_size _)) rfl ?_
  exact ⟨rfl, below_setRow HW3.out (Nat.le_succ _) _⟩

set_option maxRecDepth 100000 in
set_option maxHeartbeats 2000000 in
theorem with_18 (q : Req) (hop : q.op = 18) (l : List Nat) (t : List UInt8)  (s : Value) (w : World) (_hs : Sl u8C w w.heap.size s l)   :
    Calls Tryz.prog 107 #[.agg (rqC q), s, strV t] w (WPost w q) := by
  clear _hs
  have hb1 := Blk.new w 60 (rqC q)
  have hW1 := (Below.refl w.heap.size w).alloc (Nat.le_refl _) (.cells (rqC q) 60)
  have hz1 : (w.alloc (.cells (rqC q) 60)).heap.size = w.heap.size + 1 := by simp
  obtain ⟨w1, hst1⟩ : ∃ w1, w.alloc (.cells (rqC q) 60) = w1 := ⟨_, rfl⟩
  rw [hst1] at hb1 hW1 hz1
  have hr2 := Blk.new w1 60 zeroC
  rw [hz1] at hr2
  have hb2 := hb1.alloc (.cells zeroC 60)
  have hW2 := hW1.alloc (by omega) (.cells zeroC 60)
  obtain ⟨w2, hst2⟩ : ∃ w2, w1.alloc (.cells zeroC 60) = w2 := ⟨_, rfl⟩
  rw [hst2] at hr2 hb2 hW2
  have HR2 := Lib.hid hr2
  have HB2 := Lib.hid (show Blk w2 w.heap.size 60 (rqC q) from hb2)
  have HW2 := Lib.hid hW2
  have c0 : w2.cell? ⟨w.heap.size, 0, none⟩ = some (.int .i64 18) := by rw [← hop]; exact hb2.is 0 rfl
  clear hb1 hW1 hr2 hb2 hW2 hop
  go_enter Tryz.func107, Tryz.ntmps107
  go_wp2_with (first | (refine wpList_load_row rfl 60 (.tmp 3) rfl w.heap.size rfl 60 (rqC q) (0, 0) _ HB2.out Tryz.underlying60 rfl (rq_size _) ?_) | (refine wpList_store_row rfl 60 (.tmp 6) (.tmp 138) rfl (w.heap.size + 1) (rqC q) rfl rfl 60 zeroC HR2.out (rq_size _) rfl (rq_one _) ?_))
  refine bodyPost_ret (results_cell rfl _ _ (w.heap.size + 1) 60 (rqC q) (0, 0) _ rfl (HR2.out.row _) Tryz.underlying60 rfl (rq_size _)) rfl ?_
  exact ⟨rfl, below_setRow HW2.out (Nat.le_succ _) _⟩

set_option maxRecDepth 100000 in
set_option maxHeartbeats 2000000 in
theorem with_19 (q : Req) (hop : q.op = 19) (l : List Nat) (t : List UInt8) (a0 a1 : Nat) (s : Value) (w : World) (hs : Sl u8C w w.heap.size s l) (l0 : l[0]? = some a0) (l1 : l[1]? = some a1) (h0 : a0 < 4294967296) (h1 : a1 < 4294967296) :
    Calls Tryz.prog 107 #[.agg (rqC q), s, strV t] w (WPost w { q with whom := a0, quota := a1 }) := by
  have hnl : 2 ≤ l.length := by have := (List.getElem?_eq_some_iff.1 l1).1; omega
  have HSL := Lib.hid hs
  obtain ⟨b, off, n, ca, rfl, hn, g1, g2, hb, hlay⟩ := hs.head8 (by omega)
  rw [← hn] at hnl
  have HN := Lib.hid hn
  unfold maxLen at g2
  clear hs hn
  have hb1 := Blk.new w 60 (rqC q)
  have hW1 := (Below.refl w.heap.size w).alloc (Nat.le_refl _) (.cells (rqC q) 60)
  have hz1 : (w.alloc (.cells (rqC q) 60)).heap.size = w.heap.size + 1 := by simp
  obtain ⟨w1, hst1⟩ : ∃ w1, w.alloc (.cells (rqC q) 60) = w1 := ⟨_, rfl⟩
  rw [hst1] at hb1 hW1 hz1
  have hr2 := Blk.new w1 60 zeroC
  rw [hz1] at hr2
  have hb2 := hb1.alloc (.cells zeroC 60)
  have hW2 := hW1.alloc (by omega) (.cells zeroC 60)
  obtain ⟨w2, hst2⟩ : ∃ w2, w1.alloc (.cells zeroC 60) = w2 := ⟨_, rfl⟩
  rw [hst2] at hr2 hb2 hW2
  have HR2 := Lib.hid hr2
  have HB2 := Lib.hid (show Blk w2 w.heap.size 60 (rqC q) from hb2)
  have HW2 := Lib.hid hW2
  have c0 : w2.cell? ⟨w.heap.size, 0, none⟩ = some (.int .i64 19) := by rw [← hop]; exact hb2.is 0 rfl
  have HL2 := Lib.hid (hlay.below hW2 hb)
  clear hb1 hW1 hr2 hb2 hW2 hlay hop
  have hi0 : 0 < n := by omega
  have hj0 : (0 : Int) < (n : Int) := by omega
  have hw0 := wrap_small h0
  have hi1 : 1 < n := by omega
  have hj1 : (1 : Int) < (n : Int) := by omega
  have hw1 := wrap_small h1
  have s2_0 := u8_at0 HL2.out  l0
  have f2 := HB2.out.frozen 5
  have d2 := HB2.out.is 5 rfl
  have hB3 : Blk (w2.setCell ⟨w.heap.size, 5, none⟩ (.int .i64 (a0 : Nat))) w.heap.size 60 (rqC { q with whom := a0 }) := HB2.out.put 5 (.int .i64 (a0 : Nat))
  have hR3 := HR2.out.far (p := ⟨w.heap.size, 5, none⟩) (by simp) (.int .i64 (a0 : Nat))
  have hW3 := HW2.out.setCell (p := ⟨w.heap.size, 5, none⟩) (Nat.le_refl _) (.int .i64 (a0 : Nat))
  have hL3 := HL2.out.setCell (p := ⟨w.heap.size, 5, none⟩) (by simp; omega) (.int .i64 (a0 : Nat))
  obtain ⟨w3, hst3⟩ : ∃ w3, w2.setCell ⟨w.heap.size, 5, none⟩ (.int .i64 (a0 : Nat)) = w3 := ⟨_, rfl⟩
  rw [hst3] at hB3 hR3 hW3 hL3
  have HB3 := Lib.hid hB3
  have HR3 := Lib.hid hR3
  have HW3 := Lib.hid hW3
  have HL3 := Lib.hid hL3
  clear hB3 hR3 hW3 hL3
  have s3_1 := u8_at HL3.out 1 l1
  have f3 := HB3.out.frozen 8
  have d3 := HB3.out.is 8 rfl
  have hB4 : Blk (w3.setCell ⟨w.heap.size, 8, none⟩ (.int .i64 (a1 : Nat))) w.heap.size 60 (rqC { q with whom := a0, quota := a1 }) := HB3.out.put 8 (.int .i64 (a1 : Nat))
  have hR4 := HR3.out.far (p := ⟨w.heap.size, 8, none⟩) (by simp) (.int .i64 (a1 : Nat))
  have hW4 := HW3.out.setCell (p := ⟨w.heap.size, 8, none⟩) (Nat.le_refl _) (.int .i64 (a1 : Nat))
  have hL4 := HL3.out.setCell (p := ⟨w.heap.size, 8, none⟩) (by simp; omega) (.int .i64 (a1 : Nat))
  obtain ⟨w4, hst4⟩ : ∃ w4, w3.setCell ⟨w.heap.size, 8, none⟩ (.int .i64 (a1 : Nat)) = w4 := ⟨_, rfl⟩
  rw [hst4] at hB4 hR4 hW4 hL4
  have HB4 := Lib.hid hB4
  have HR4 := Lib.hid hR4
  have HW4 := Lib.hid hW4
  have HL4 := Lib.hid hL4
  clear hB4 hR4 hW4 hL4
  go_enter Tryz.func107, Tryz.ntmps107
  go_wp2_with (first | (refine wpList_load_row rfl 60 (.tmp 3) rfl w.heap.size rfl 60 (rqC { q with whom := a0, quota := a1 }) (0, 0) _ HB4.out Tryz.underlying60 rfl (rq_size _) ?_) | (refine wpList_store_row rfl 60 (.tmp 6) (.tmp 138) rfl (w.heap.size + 1) (rqC { q with whom := a0, quota := a1 }) rfl rfl 60 zeroC HR4.out (rq_size _) rfl (rq_one _) ?_))
  refine bodyPost_ret (results_cell rfl _ _ (w.heap.size + 1) 60 (rqC { q with whom := a0, quota := a1 }) (0, 0) _ rfl (HR4.out.row _) Tryz.underlying60 rfl (rq_size _)) rfl ?_
  exact ⟨rfl, below_setRow HW4.out (Nat.le_succ _) _⟩

/-- A request with an operation's fields. -/
def withR (q : Req) (l : List Nat) (t : List UInt8) : Req :=
  if q.op = 1 then { q with whom := l.getD 0 0, role := l.getD 1 0, tier := l.getD 2 0, quota := l.getD 3 0 } else
  if q.op = 2 then { q with whom := l.getD 0 0 } else
  if q.op = 3 then { q with txt := t } else
  if q.op = 4 then { q with whom := l.getD 0 0, rights := l.getD 1 0, til := l.getD 2 0 } else
  if q.op = 5 then { q with rights := l.getD 0 0, zoom := l.getD 1 0, x0 := l.getD 2 0, y0 := l.getD 3 0, x1 := l.getD 4 0, y1 := l.getD 5 0, til := l.getD 6 0 } else
  if q.op = 6 then { q with other := l.getD 0 0 } else
  if q.op = 7 then { q with pk := l.getD 0 0, area := l.getD 1 0 } else
  if q.op = 8 then { q with ax := l.getD 0 0, ay := l.getD 1 0, label := l.getD 2 0 } else
  if q.op = 13 then { q with x0 := l.getD 0 0, y0 := l.getD 1 0, x1 := l.getD 2 0, y1 := l.getD 3 0 } else
  if q.op = 14 then { q with ax := l.getD 0 0, ay := l.getD 1 0 } else
  if q.op = 15 then { q with x0 := l.getD 0 0, y0 := l.getD 1 0, x1 := l.getD 2 0, y1 := l.getD 3 0 } else
  if q.op = 16 then { q with ax := l.getD 0 0, ay := l.getD 1 0 } else
  if q.op = 17 then { q with frm := l.getD 0 0 } else
  if q.op = 19 then { q with whom := l.getD 0 0, quota := l.getD 1 0 } else q

theorem with_ok (q : Req) (hop : isOp q.op = true) (l : List Nat) (t : List UInt8) (s : Value) (w : World) (hs : Sl u8C w w.heap.size s l) (hlen : l.length = (widths q.op).length) (hv : ∀ i x, l[i]? = some x → (widths q.op).getD i 8 ≤ 4 → x < 4294967296) :
    Calls Tryz.prog 107 #[.agg (rqC q), s, strV t] w (WPost w (withR q l t)) := by
  rcases isOp_cases hop with h | h | h | h | h | h | h | h | h | h | h | h | h | h | h | h | h | h | h
  · rw [h] at hlen hv
    match l, hlen with
    | [a0, a1, a2, a3], _ =>
      have hc := with_1 q h [a0, a1, a2, a3] t a0 a1 a2 a3 s w hs rfl rfl rfl rfl (hv 0 _ rfl (by decide)) (hv 1 _ rfl (by decide)) (hv 2 _ rfl (by decide)) (hv 3 _ rfl (by decide))
      simpa [withR, h] using hc
  · rw [h] at hlen hv
    match l, hlen with
    | [a0], _ =>
      have hc := with_2 q h [a0] t a0 s w hs rfl (hv 0 _ rfl (by decide))
      simpa [withR, h] using hc
  · rw [h] at hlen hv
    match l, hlen with
    | [], _ =>
      have hc := with_3 q h [] t  s w hs  
      simpa [withR, h] using hc
  · rw [h] at hlen hv
    match l, hlen with
    | [a0, a1, a2], _ =>
      have hc := with_4 q h [a0, a1, a2] t a0 a1 a2 s w hs rfl rfl rfl (hv 0 _ rfl (by decide)) (hv 1 _ rfl (by decide)) (hv 2 _ rfl (by decide))
      simpa [withR, h] using hc
  · rw [h] at hlen hv
    match l, hlen with
    | [a0, a1, a2, a3, a4, a5, a6], _ =>
      have hc := with_5 q h [a0, a1, a2, a3, a4, a5, a6] t a0 a1 a2 a3 a4 a5 a6 s w hs rfl rfl rfl rfl rfl rfl rfl (hv 0 _ rfl (by decide)) (hv 1 _ rfl (by decide)) (hv 2 _ rfl (by decide)) (hv 3 _ rfl (by decide)) (hv 4 _ rfl (by decide)) (hv 5 _ rfl (by decide)) (hv 6 _ rfl (by decide))
      simpa [withR, h] using hc
  · rw [h] at hlen hv
    match l, hlen with
    | [a0], _ =>
      have hc := with_6 q h [a0] t a0 s w hs rfl 
      simpa [withR, h] using hc
  · rw [h] at hlen hv
    match l, hlen with
    | [a0, a1], _ =>
      have hc := with_7 q h [a0, a1] t a0 a1 s w hs rfl rfl (hv 0 _ rfl (by decide))
      simpa [withR, h] using hc
  · rw [h] at hlen hv
    match l, hlen with
    | [a0, a1, a2], _ =>
      have hc := with_8 q h [a0, a1, a2] t a0 a1 a2 s w hs rfl rfl rfl (hv 0 _ rfl (by decide)) (hv 1 _ rfl (by decide)) (hv 2 _ rfl (by decide))
      simpa [withR, h] using hc
  · rw [h] at hlen hv
    match l, hlen with
    | [], _ =>
      have hc := with_9 q h [] t  s w hs  
      simpa [withR, h] using hc
  · rw [h] at hlen hv
    match l, hlen with
    | [], _ =>
      have hc := with_10 q h [] t  s w hs  
      simpa [withR, h] using hc
  · rw [h] at hlen hv
    match l, hlen with
    | [], _ =>
      have hc := with_11 q h [] t  s w hs  
      simpa [withR, h] using hc
  · rw [h] at hlen hv
    match l, hlen with
    | [], _ =>
      have hc := with_12 q h [] t  s w hs  
      simpa [withR, h] using hc
  · rw [h] at hlen hv
    match l, hlen with
    | [a0, a1, a2, a3], _ =>
      have hc := with_13 q h [a0, a1, a2, a3] t a0 a1 a2 a3 s w hs rfl rfl rfl rfl (hv 0 _ rfl (by decide)) (hv 1 _ rfl (by decide)) (hv 2 _ rfl (by decide)) (hv 3 _ rfl (by decide))
      simpa [withR, h] using hc
  · rw [h] at hlen hv
    match l, hlen with
    | [a0, a1], _ =>
      have hc := with_14 q h [a0, a1] t a0 a1 s w hs rfl rfl (hv 0 _ rfl (by decide)) (hv 1 _ rfl (by decide))
      simpa [withR, h] using hc
  · rw [h] at hlen hv
    match l, hlen with
    | [a0, a1, a2, a3], _ =>
      have hc := with_15 q h [a0, a1, a2, a3] t a0 a1 a2 a3 s w hs rfl rfl rfl rfl (hv 0 _ rfl (by decide)) (hv 1 _ rfl (by decide)) (hv 2 _ rfl (by decide)) (hv 3 _ rfl (by decide))
      simpa [withR, h] using hc
  · rw [h] at hlen hv
    match l, hlen with
    | [a0, a1], _ =>
      have hc := with_16 q h [a0, a1] t a0 a1 s w hs rfl rfl (hv 0 _ rfl (by decide)) (hv 1 _ rfl (by decide))
      simpa [withR, h] using hc
  · rw [h] at hlen hv
    match l, hlen with
    | [a0], _ =>
      have hc := with_17 q h [a0] t a0 s w hs rfl (hv 0 _ rfl (by decide))
      simpa [withR, h] using hc
  · rw [h] at hlen hv
    match l, hlen with
    | [], _ =>
      have hc := with_18 q h [] t  s w hs  
      simpa [withR, h] using hc
  · rw [h] at hlen hv
    match l, hlen with
    | [a0, a1], _ =>
      have hc := with_19 q h [a0, a1] t a0 a1 s w hs rfl rfl (hv 0 _ rfl (by decide)) (hv 1 _ rfl (by decide))
      simpa [withR, h] using hc
end Go.Proofs.YtldjgpnbkbmgoaaGreatDoor
