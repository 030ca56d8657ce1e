/-
  The reference's rect and point, and With. Conditions: as each states.
-/
import Derived.Test.YtldjgpnbkbmgoaaGreatDoorRefB
import Derived.StillTailTactics
namespace Go.Proofs.YtldjgpnbkbmgoaaGreatDoor
open Go.RowKit Go.Lib

theorem Lay.u8 {w : World} {b off : Nat} {x : Nat} (h : Lay w b off (u8C x)) : w.cell? ⟨b, off, none⟩ = some (.int .u64 (x : Int)) := h 0 _ rfl
/-- Cell i of a slice of numbers. -/
theorem u8_at {w : World} {b off : Nat} {l : List Nat} (h : Lay w b off (l.flatMap u8C)) (i : Nat) {x : Nat} (hi : l[i]? = some x) : w.cell? ⟨b, off + i, none⟩ = some (.int .u64 (x : Int)) := by
  obtain ⟨hlt, hx⟩ := List.getElem?_eq_some_iff.1 hi
  have := (h.elem u8C_len i hlt).u8
  rw [Nat.mul_one, hx] at this
  exact this
theorem u8_at0 {w : World} {b off : Nat} {l : List Nat} (h : Lay w b off (l.flatMap u8C)) {x : Nat} (hi : l[0]? = some x) : w.cell? ⟨b, off, none⟩ = some (.int .u64 (x : Int)) := u8_at h 0 hi

theorem wrap_small {z : Nat} (hz : z < 4294967296) : IntKind.i64.wrap (z : Int) = (z : Int) := by rw [IntKind.wrap_i64]; omega

/-- A region that draws and reads ahead of one store. -/
theorem drew_is {w w2 : World} (h : w.drew = w2) : (∀ a, w2.cell? a = w.cell? a) ∧ (∀ a, w2.frozen? a = w.frozen? a) ∧ w2.heap = w.heap := by
  subst h
  exact ⟨fun _ => rfl, fun _ => rfl, rfl⟩

theorem below_drew {B : Nat} {a w : World} (h : Below B a w) : Below B a w.drew := ⟨h.os, h.tape, h.output, h.size, h.block⟩

/-- One result: a struct in memory. -/
theorem results_cell {P : Program} {fn : Func} {p : Tmp} {ty : TypeId} (h : fn.results = #[.cell p ty]) (tmps : Array Value) (w : World) (g : Nat) (t : TypeId) (cs : Array Value) (fr : Nat × Nat) (d : TypeDesc)
    (hp : tmps.getD p undef = .pointer (some ⟨g, 0, none⟩)) (hg : w.heap[g]? = some (.cells cs t fr))
    (hu : P.underlying ty = some d) (hd : (match d with | .struct _ | .array _ _ => true | _ => false) = true) (hi : (P.info? ty).map (·.size) = some cs.size) :
    (results fn tmps).run P w = .ok (.agg cs) w := by
  have hp' : tmps[p]?.getD undef = .pointer (some ⟨g, 0, none⟩) := by simpa using hp
  simp [results, h, hp', asAddr, run_loadVar_row w g t ty cs fr d hg hu hd hi]

theorem still_tail {P : Program} {id : Nat} {Q : Exit → Act → World → Prop} {a : Act} {w : World} {l : List Oper} (n : Nat) (hm : P.follows .mixedOrders = true) (hB : Region.lexTailB .any l.toArray n = true)
    (h : wpStill P l.toArray w.drew (fun a' => wpList P l.toArray Q (l.drop n) a' w.drew) (l.take n) a) : (Code.region id l.toArray true).wp P Q a w := wp_region_still_tail n hm hB h

set_option maxRecDepth 100000 in
set_option maxHeartbeats 1000000 in
theorem rpoint_ok (l : List Nat) (x y : Nat) (s : Value) (w : World) (B : Nat) (hB : B ≤ w.heap.size) (hs : Sl u8C w B s l) (l0 : l[0]? = some x) (l1 : l[1]? = some y) (hx : x < 4294967296) (hy : y < 4294967296) :
    Calls Tryz.prog 138 #[s] w fun e w' => e = .returned (ptV x y) ∧ Below w.heap.size w w' := by
  obtain ⟨A, ca, rfl, h1, h2, h3⟩ := hs
  have hn : 2 ≤ l.length := by have := (List.getElem?_eq_some_iff.1 l1).1; omega
  obtain ⟨b, off, rfl, hb, hlay⟩ := h3 (by omega)
  obtain ⟨w1, hw1⟩ : ∃ w1, w.alloc (.cells #[.int .i64 0, .int .i64 0] 58) = w1 := ⟨_, rfl⟩
  have hbel := (Below.refl w.heap.size w).alloc (Nat.le_refl _) (.cells #[.int .i64 0, .int .i64 0] 58)
  have hblk := Blk.new w 58 #[.int .i64 0, .int .i64 0]
  rw [hw1] at hbel hblk
  have HBEL := Lib.hid (below_drew hbel)
  have HBLK := Lib.hid (show Blk w1.drew _ _ _ from hblk)
  have hlay1 := hlay.of_heap (hbel.block b (by omega))
  have hlay2 : Lay w1.drew b off (l.flatMap u8C) := hlay1
  have c0 := u8_at0 hlay2 l0
  have c1 := u8_at hlay2 1 l1
  generalize l.length = n at *
  unfold maxLen at h2
  have hwx := wrap_small hx
  have hwy := wrap_small hy
  have hi0 : 0 < n := by omega
  have hj0 : (0 : Int) < (n : Int) := by omega
  have hi1 : 1 < n := by omega
  have hj1 : (1 : Int) < (n : Int) := by omega
  clear h3 hlay hlay1 hlay2 hb hbel hblk
  go_enter Tryz.func138, Tryz.ntmps138
  go_wp2_with fail
  refine still_tail 9 (by kernel_rfl) (by kernel_rfl) ?_
  generalize w1.drew = w2 at *
  simp only [List.take_succ_cons, List.take_zero, List.drop_succ_cons, List.drop_zero]
  repeat still_step
  refine wpStill_nil ?_
  have HROW := Lib.hid (below_setRow HBEL.out (Nat.le_refl _) #[.int .i64 x, .int .i64 y])
  refine wpList_store_row rfl 58 (.tmp 2) (.tmp 11) rfl w.heap.size #[.int .i64 (x : Nat), .int .i64 (y : Nat)] rfl rfl 58 #[.int .i64 0, .int .i64 0] HBLK.out (by kernel_rfl) rfl (by simp [Value.oneCell']) ?_
  go_wp2_with fail
  refine bodyPost_ret (results_cell rfl _ _ w.heap.size 58 #[.int .i64 (x : Nat), .int .i64 (y : Nat)] (0, 0) _ rfl (HBLK.out.row _) Tryz.underlying58 rfl (by kernel_rfl)) rfl ?_
  exact ⟨rfl, HROW.out⟩

set_option maxRecDepth 100000 in
set_option maxHeartbeats 1000000 in
theorem rrect_ok (l : List Nat) (x y z u : Nat) (s : Value) (w : World) (B : Nat) (hB : B ≤ w.heap.size) (hs : Sl u8C w B s l) (l0 : l[0]? = some x) (l1 : l[1]? = some y) (l2 : l[2]? = some z) (l3 : l[3]? = some u) (hx : x < 4294967296) (hy : y < 4294967296) (hz : z < 4294967296) (hu : u < 4294967296) :
    Calls Tryz.prog 137 #[s] w fun e w' => e = .returned (boxV x y z u) ∧ Below w.heap.size w w' := by
  obtain ⟨A, ca, rfl, h1, h2, h3⟩ := hs
  have hn : 4 ≤ l.length := by have := (List.getElem?_eq_some_iff.1 l3).1; omega
  obtain ⟨b, off, rfl, hb, hlay⟩ := h3 (by omega)
  obtain ⟨w1, hw1⟩ : ∃ w1, w.alloc (.cells #[.int .i64 0, .int .i64 0, .int .i64 0, .int .i64 0] 54) = w1 := ⟨_, rfl⟩
  have hbel := (Below.refl w.heap.size w).alloc (Nat.le_refl _) (.cells #[.int .i64 0, .int .i64 0, .int .i64 0, .int .i64 0] 54)
  have hblk := Blk.new w 54 #[.int .i64 0, .int .i64 0, .int .i64 0, .int .i64 0]
  rw [hw1] at hbel hblk
  have HBEL := Lib.hid (below_drew hbel)
  have HBLK := Lib.hid (show Blk w1.drew _ _ _ from hblk)
  have hlay1 := hlay.of_heap (hbel.block b (by omega))
  have hlay2 : Lay w1.drew b off (l.flatMap u8C) := hlay1
  have c0 := u8_at0 hlay2 l0
  have c1 := u8_at hlay2 1 l1
  have c2 := u8_at hlay2 2 l2
  have c3 := u8_at hlay2 3 l3
  generalize l.length = n at *
  unfold maxLen at h2
  have hwx := wrap_small hx
  have hwy := wrap_small hy
  have hwz := wrap_small hz
  have hwu := wrap_small hu
  have hi0 : 0 < n := by omega
  have hj0 : (0 : Int) < (n : Int) := by omega
  have hi1 : 1 < n := by omega
  have hj1 : (1 : Int) < (n : Int) := by omega
  have hi2 : 2 < n := by omega
  have hj2 : (2 : Int) < (n : Int) := by omega
  have hi3 : 3 < n := by omega
  have hj3 : (3 : Int) < (n : Int) := by omega
  clear h3 hlay hlay1 hlay2 hb hbel hblk
  go_enter Tryz.func137, Tryz.ntmps137
  go_wp2_with fail
  refine still_tail 17 (by kernel_rfl) (by kernel_rfl) ?_
  generalize w1.drew = w2 at *
  simp only [List.take_succ_cons, List.take_zero, List.drop_succ_cons, List.drop_zero]
  repeat still_step
  refine wpStill_nil ?_
  have HROW := Lib.hid (below_setRow HBEL.out (Nat.le_refl _) #[.int .i64 x, .int .i64 y, .int .i64 z, .int .i64 u])
  refine wpList_store_row rfl 54 (.tmp 2) (.tmp 19) rfl w.heap.size #[.int .i64 (x : Nat), .int .i64 (y : Nat), .int .i64 (z : Nat), .int .i64 (u : Nat)] rfl rfl 54 #[.int .i64 0, .int .i64 0, .int .i64 0, .int .i64 0] HBLK.out (by kernel_rfl) rfl (by simp [Value.oneCell']) ?_
  go_wp2_with fail
  refine bodyPost_ret (results_cell rfl _ _ w.heap.size 54 #[.int .i64 (x : Nat), .int .i64 (y : Nat), .int .i64 (z : Nat), .int .i64 (u : Nat)] (0, 0) _ rfl (HBLK.out.row _) Tryz.underlying54 rfl (by kernel_rfl)) rfl ?_
  exact ⟨rfl, HROW.out⟩
end Go.Proofs.YtldjgpnbkbmgoaaGreatDoor
