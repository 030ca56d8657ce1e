/-
  Rectangles that may be. Conditions: as each states.
-/
import Derived.Test.YtldjgpnbkbmgoaaGreatDoorNeeds
namespace Go.Proofs.YtldjgpnbkbmgoaaGreatDoor
open Go.RowKit Go.Lib

def BPost (w : World) (b : Bool) (e : Ending) (w' : World) : Prop := e = .returned (.bool b) ∧ Below w.heap.size w w'
def fitsB (x y : Int) : Bool := decide (0 ≤ x ∧ x ≤ 65535 ∧ 0 ≤ y ∧ y ≤ 65535)
abbrev ptV (x y : Int) : Value := .agg #[.int .i64 x, .int .i64 y]
abbrev boxV (x0 y0 x1 y1 : Int) : Value := .agg #[.int .i64 x0, .int .i64 y0, .int .i64 x1, .int .i64 y1]
def boxB (x0 y0 x1 y1 : Int) : Bool := fitsB x0 y0 && fitsB x1 y1 && decide (x0 ≤ x1) && decide (y0 ≤ y1)

set_option maxRecDepth 100000 in
set_option maxHeartbeats 1000000 in
theorem fits_ok (x y : Int) (w : World) : Calls Tryz.prog 216 #[ptV x y] w (BPost w (fitsB x y)) := by
  have hW := Lib.hid ((Below.refl w.heap.size w).alloc (Nat.le_refl _) (.cells #[.int .i64 x, .int .i64 y] 58))
  have hd : fitsB x y = (decide (0 ≤ x) && (decide (x ≤ 65535) && (decide (0 ≤ y) && decide (y ≤ 65535)))) := by simp [fitsB]
  have HD := Lib.hid hd
  clear hd
  go_enter Tryz.func216, Tryz.ntmps216
  go_wp2_with fail
  all_goals
    go_ret
    refine ⟨?_, hW.out⟩
    rw [HD.out]
    simp [*] <;> omega

theorem low_ok (x0 y0 x1 y1 : Int) (w : World) : Calls Tryz.prog 229 #[boxV x0 y0 x1 y1] w (fun e w' => e = .returned (ptV x0 y0) ∧ Below w.heap.size w w') := by
  go_enter Tryz.func229, Tryz.ntmps229
  go_wp2_with fail
  refine bodyPost_ret (v := ptV x0 y0) (by simp [results, Tryz.results229, go_sem]) rfl ?_
  refine ⟨rfl, ?_⟩
  exact ((Below.refl w.heap.size w).alloc (Nat.le_refl _) _).alloc (by simp) _
theorem high_ok (x0 y0 x1 y1 : Int) (w : World) : Calls Tryz.prog 230 #[boxV x0 y0 x1 y1] w (fun e w' => e = .returned (ptV x1 y1) ∧ Below w.heap.size w w') := by
  go_enter Tryz.func230, Tryz.ntmps230
  go_wp2_with fail
  refine bodyPost_ret (v := ptV x1 y1) (by simp [results, Tryz.results230, go_sem]) rfl ?_
  refine ⟨rfl, ?_⟩
  exact ((Below.refl w.heap.size w).alloc (Nat.le_refl _) _).alloc (by simp) _

set_option maxRecDepth 100000 in
set_option maxHeartbeats 1000000 in
theorem both_ok (x0 y0 x1 y1 : Int) (w : World) : Calls Tryz.prog 215 #[boxV x0 y0 x1 y1, .func (.func 216) #[] #[]] w (BPost w (fitsB x0 y0 && fitsB x1 y1)) := by
  have hB := Lib.hid (Blk.new w 313 #[.int .i64 x0, .int .i64 y0, .int .i64 x1, .int .i64 y1])
  have hW := Lib.hid ((Below.refl w.heap.size w).alloc (Nat.le_refl _) (.cells #[.int .i64 x0, .int .i64 y0, .int .i64 x1, .int .i64 y1] 313))
  go_enter Tryz.func215, Tryz.ntmps215
  go_wp2_with fail
  refine (low_ok x0 y0 x1 y1 _).mono ?_
  rintro e w1 ⟨rfl, h1⟩
  have hB := Lib.hid (hB.out.below h1 hB.out.lt)
  have hW := Lib.hid (hW.out.trans (h1.mono (by simp)))
  have hle : w.heap.size ≤ w1.heap.size := Nat.le_of_lt hB.out.lt
  clear h1
  go_wp2_with fail
  refine (fits_ok x0 y0 w1).mono ?_
  rintro e w2 ⟨rfl, h2⟩
  have hB := Lib.hid (hB.out.below h2 hB.out.lt)
  have hW := Lib.hid (hW.out.trans (h2.mono hle))
  generalize fitsB x0 y0 = b at *
  have c0 := hB.out.is 0 rfl
  have c1 := hB.out.is 1 rfl
  have c2 := hB.out.is 2 rfl
  have c3 := hB.out.is 3 rfl
  have hlt := Lib.hid hB.out.lt
  clear h2
  cases b
  · go_wp2_with fail
    go_ret
    exact ⟨rfl, hW.out⟩
  · go_wp2_with fail
    refine (high_ok x0 y0 x1 y1 _).mono ?_
    rintro e w3 ⟨rfl, h3⟩
    have hle2 := Nat.le_of_lt (Nat.lt_of_lt_of_le hlt.out h3.size)
    have hW := Lib.hid (hW.out.trans (h3.mono (Nat.le_of_lt hlt.out)))
    clear h3
    go_wp2_with fail
    refine (fits_ok x1 y1 w3).mono ?_
    rintro e w4 ⟨rfl, h4⟩
    have hW := Lib.hid (hW.out.trans (h4.mono hle2))
    clear h4
    go_wp2_with fail
    go_ret
    exact ⟨by simp, hW.out⟩

set_option maxRecDepth 100000 in
set_option maxHeartbeats 1000000 in
theorem right_ok (x0 y0 x1 y1 : Int) (w : World) : Calls Tryz.prog 186 #[boxV x0 y0 x1 y1] w (BPost w (boxB x0 y0 x1 y1)) := by
  have hB := Lib.hid (Blk.new w 54 #[.int .i64 x0, .int .i64 y0, .int .i64 x1, .int .i64 y1])
  have hW := Lib.hid ((Below.refl w.heap.size w).alloc (Nat.le_refl _) (.cells #[.int .i64 x0, .int .i64 y0, .int .i64 x1, .int .i64 y1] 54))
  go_enter Tryz.func186, Tryz.ntmps186
  go_wp2_with fail
  refine (both_ok x0 y0 x1 y1 _).mono ?_
  rintro e w1 ⟨rfl, h1⟩
  have hB := Lib.hid (hB.out.below h1 hB.out.lt)
  have hW := Lib.hid (hW.out.trans (h1.mono (by simp)))
  have c0 := hB.out.is 0 rfl
  have c1 := hB.out.is 1 rfl
  have c2 := hB.out.is 2 rfl
  have c3 := hB.out.is 3 rfl
  have HD := Lib.hid (show boxB x0 y0 x1 y1 = ((fitsB x0 y0 && fitsB x1 y1) && decide (x0 ≤ x1) && decide (y0 ≤ y1)) from rfl)
  clear h1
  generalize (fitsB x0 y0 && fitsB x1 y1) = b at *
  cases b
  all_goals
    go_wp2_with fail
  all_goals
    go_ret
    refine ⟨?_, hW.out⟩
    rw [HD.out]
    simp [*] <;> omega

/-- Whether a request's rectangle may be. -/
def boxedB (q : Req) : Bool := if q.op = 5 ∨ q.op = 13 ∨ q.op = 15 then boxB q.x0 q.y0 q.x1 q.y1 else true
set_option maxRecDepth 100000 in
set_option maxHeartbeats 1000000 in
theorem boxed_ok (q : Req) (w : World) : Calls Tryz.prog 145 #[.agg (rqC q)] w (BPost w (boxedB q)) := by
  have hW := Lib.hid ((Below.refl w.heap.size w).alloc (Nat.le_refl _) (.cells (rqC q) 60))
  unfold boxedB
  by_cases h5 : q.op = 5
  · rw [if_pos (.inl h5)]
    go_enter Tryz.func145, Tryz.ntmps145
    go_wp2_with fail
    refine (right_ok q.x0 q.y0 q.x1 q.y1 _).mono ?_
    rintro e w1 ⟨rfl, h1⟩
    have hW := Lib.hid (hW.out.trans (h1.mono (by simp)))
    clear h1
    go_wp2_with fail
    go_ret
    exact ⟨rfl, hW.out⟩
  by_cases h13 : q.op = 13
  · rw [if_pos (.inr (.inl h13))]
    go_enter Tryz.func145, Tryz.ntmps145
    go_wp2_with fail
    refine (right_ok q.x0 q.y0 q.x1 q.y1 _).mono ?_
    rintro e w1 ⟨rfl, h1⟩
    have hW := Lib.hid (hW.out.trans (h1.mono (by simp)))
    clear h1
    go_wp2_with fail
    go_ret
    exact ⟨rfl, hW.out⟩
  by_cases h15 : q.op = 15
  · rw [if_pos (.inr (.inr h15))]
    go_enter Tryz.func145, Tryz.ntmps145
    go_wp2_with fail
    refine (right_ok q.x0 q.y0 q.x1 q.y1 _).mono ?_
    rintro e w1 ⟨rfl, h1⟩
    have hW := Lib.hid (hW.out.trans (h1.mono (by simp)))
    clear h1
    go_wp2_with fail
    go_ret
    exact ⟨rfl, hW.out⟩
  rw [if_neg (by simp [h5, h13, h15])]
  go_enter Tryz.func145, Tryz.ntmps145
  go_wp2_with fail
  go_ret
  exact ⟨rfl, hW.out⟩

theorem inside_ok (x : Int) (w : World) : Calls Tryz.prog 180 #[.int .i64 x] w fun e w' => e = .returned (.bool (decide (0 ≤ x ∧ x ≤ 65535))) ∧ w' = w := by
  go_enter Tryz.func180, Tryz.ntmps180
  go_wp2
  all_goals
    go_ret
    simp [*] <;> omega

set_option maxRecDepth 100000 in
set_option maxHeartbeats 1000000 in
theorem rright_ok (x0 y0 x1 y1 : Int) (w : World) : Calls Tryz.prog 139 #[boxV x0 y0 x1 y1] w (BPost w (boxB x0 y0 x1 y1)) := by
  have hW := Lib.hid ((Below.refl w.heap.size w).alloc (Nat.le_refl _) (.cells #[.int .i64 x0, .int .i64 y0, .int .i64 x1, .int .i64 y1] 54))
  have hd : boxB x0 y0 x1 y1 = decide ((0 ≤ x0 ∧ x0 ≤ 65535) ∧ (0 ≤ x1 ∧ x1 ≤ 65535) ∧ (0 ≤ y0 ∧ y0 ≤ 65535) ∧ (0 ≤ y1 ∧ y1 ≤ 65535) ∧ x0 ≤ x1 ∧ y0 ≤ y1) := by
    unfold boxB fitsB
    rw [Bool.eq_iff_iff]
    simp only [Bool.and_eq_true, decide_eq_true_eq]
    omega
  have HD := Lib.hid hd
  clear hd
  go_enter Tryz.func139, Tryz.ntmps139
  go_wp2_with fail
  refine (inside_ok x0 _).mono ?_
  rintro e w' ⟨rfl, hw'⟩
  rw [hw']
  clear hw' w'
  by_cases hx0 : 0 ≤ x0 ∧ x0 ≤ 65535
  rotate_left
  · rw [decide_eq_false hx0]
    go_wp2_with fail
    go_ret
    refine ⟨?_, hW.out⟩
    rw [HD.out, decide_eq_false (fun e => hx0 e.1)]
    rfl
  rw [decide_eq_true hx0]
  go_wp2_with fail
  refine (inside_ok x1 _).mono ?_
  rintro e w' ⟨rfl, hw'⟩
  rw [hw']
  clear hw' w'
  by_cases hx1 : 0 ≤ x1 ∧ x1 ≤ 65535
  rotate_left
  · rw [decide_eq_false hx1]
    go_wp2_with fail
    go_ret
    refine ⟨?_, hW.out⟩
    rw [HD.out, decide_eq_false (fun e => hx1 e.2.1)]
    rfl
  rw [decide_eq_true hx1]
  go_wp2_with fail
  refine (inside_ok y0 _).mono ?_
  rintro e w' ⟨rfl, hw'⟩
  rw [hw']
  clear hw' w'
  by_cases hy0 : 0 ≤ y0 ∧ y0 ≤ 65535
  rotate_left
  · rw [decide_eq_false hy0]
    go_wp2_with fail
    go_ret
    refine ⟨?_, hW.out⟩
    rw [HD.out, decide_eq_false (fun e => hy0 e.2.2.1)]
    rfl
  rw [decide_eq_true hy0]
  go_wp2_with fail
  refine (inside_ok y1 _).mono ?_
  rintro e w' ⟨rfl, hw'⟩
  rw [hw']
  clear hw' w'
  by_cases hy1 : 0 ≤ y1 ∧ y1 ≤ 65535
  rotate_left
  · rw [decide_eq_false hy1]
    go_wp2_with fail
    go_ret
    refine ⟨?_, hW.out⟩
    rw [HD.out, decide_eq_false (fun e => hy1 e.2.2.2.1)]
    rfl
  rw [decide_eq_true hy1]
  go_wp2_with fail
  all_goals
    go_ret
    refine ⟨?_, hW.out⟩
    rw [HD.out]
    simp [*] <;> omega
end Go.Proofs.YtldjgpnbkbmgoaaGreatDoor
