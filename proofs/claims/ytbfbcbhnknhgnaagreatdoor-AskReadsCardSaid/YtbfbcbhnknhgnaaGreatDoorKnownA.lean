/-
  What must come of fixed calls. Conditions: none.
-/
import Derived.Test.YtbfbcbhnknhgnaaGreatDoorAnswer
namespace Go.Proofs.YtbfbcbhnknhgnaaGreatDoor
open Go.RowKit
attribute [local go_sem ↓] load_req stop_req

def knownT : List UInt8 := [48, 32, 49, 32, 48, 48, 48, 48, 48, 48, 48, 48, 48, 48, 48, 48, 48, 48, 54, 53, 32, 52, 32, 110, 101, 97, 114, 32, 55, 32, 57]
def knownA : Ans := ⟨0, 0, 0, 0, 0, 0, 0, 0, 0, 0, [⟨3, 14, 4, 8, 7, 11⟩], []⟩
theorem known_read : readQ knownT = ({ zeroR 14 with user := 1, secret := 101, m := 4, ax := 7, ay := 9 }, 0) := by decide +kernel
theorem known_ans : ansT knownA = [111, 107, 32, 115, 101, 101, 110, 32, 51, 32, 49, 52, 32, 52, 32, 56, 32, 55, 32, 49, 49] ∧ ansE knownA = 0 := by decide +kernel

def aknownQ : Req := { zeroR 14 with user := 1, secret := 101, m := 4, ax := 7, ay := 9 }
theorem aknown_read : readQ knownT = (aknownQ, 0) := known_read
set_option maxRecDepth 100000 in
set_option maxHeartbeats 4000000 in
@[local go_sem high] theorem eqReqK (x : Req) (w : World) : (Op.equalIn 10000 30 (.agg (rqC x)) (.agg #[.int .i64 14, .int .i64 0, .int .i64 1, .int .u64 101, .int .i64 4, .int .i64 0, .int .i64 0, .int .i64 0, .int .i64 0, .string ⟨#[]⟩, .int .i64 0, .int .i64 0, .int .i64 0, .int .i64 0, .int .i64 0, .int .i64 0, .int .i64 0, .int .u64 0, .int .i64 0, .int .u64 0, .int .i64 7, .int .i64 9, .int .i64 0, .int .i64 0])).run Tryz.prog w = .ok (reqEq x aknownQ) w := eqReq x aknownQ w
set_option maxRecDepth 100000 in
set_option maxHeartbeats 4000000 in
theorem aknown_ok (w : World) : Calls Tryz.prog 7 #[] w (BPost w true) := by
  obtain ⟨Q, hQ⟩ : ∃ Q : Req, Q = aknownQ := ⟨_, rfl⟩
  have hread := aknown_read
  rw [← hQ] at hread
  go_enter Tryz.func7, Tryz.ntmps7
  go_wp2_with fail
  refine (Read_ok knownT _ (by decide)).mono ?_
  rintro e w1 ⟨rfl, hb1⟩
  rw [hread]
  have HW := Lib.hid hb1
  clear hb1 hread
  have HN := Lib.hid (Blk.new w1 30 zeroC)
  have HW1 := Lib.hid (HW.out.alloc HW.out.size (.cells zeroC 30))
  have hz2 : (w1.alloc (.cells zeroC 30)).heap.size = w1.heap.size + 1 := by simp
  have hz1 := HW.out.size
  obtain ⟨w2, hst2⟩ : ∃ w2, w1.alloc (.cells zeroC 30) = w2 := ⟨_, rfl⟩
  rw [hst2] at HN HW1 hz2
  have HN2 := Lib.hid (HN.out.row (rqC Q))
  have HW2 := Lib.hid (below_setRow HW1.out (g := w1.heap.size) hz1 (rqC Q))
  have hz3 : (w2.setRow w1.heap.size (rqC Q)).heap.size = w1.heap.size + 1 := by simp [hz2]
  obtain ⟨w3, hst3⟩ : ∃ w3, w2.setRow w1.heap.size (rqC Q) = w3 := ⟨_, rfl⟩
  rw [hst3] at HN2 HW2 hz3
  have HQ := Lib.hid hQ
  have HZ := Lib.hid hz3
  have HZ1 := Lib.hid hz1
  clear hz1 hz2 hz3 hQ
  go_wp2_with (refine wpList_store_row rfl 30 (.tmp 1) (.tmp 7) rfl w1.heap.size (rqC Q) rfl rfl 30 zeroC HN.out (rq_size _) rfl (rq_one _) ?_)
  have hsn := Blk.new w3 64 (snC ⟨3, 14, 4, 8, 7, 11⟩).toArray
  have HW3 := Lib.hid (HW2.out.alloc HW2.out.size (.cells (snC ⟨3, 14, 4, 8, 7, 11⟩).toArray 64))
  have HN3 := Lib.hid (HN2.out.alloc (.cells (snC ⟨3, 14, 4, 8, 7, 11⟩).toArray 64))
  have hz4 : (w3.alloc (.cells (snC ⟨3, 14, 4, 8, 7, 11⟩).toArray 64)).heap.size = w3.heap.size + 1 := by simp
  have HS : Hid (Sl snC (w3.alloc (.cells (snC ⟨3, 14, 4, 8, 7, 11⟩).toArray 64)) (w3.heap.size + 1) (.slice (some ⟨w3.heap.size, 0, none⟩) 1 1) [⟨3, 14, 4, 8, 7, 11⟩]) :=
    Lib.hid ⟨_, _, rfl, Nat.le_refl _, by unfold maxLen; simp, fun _ => ⟨_, 0, rfl, by omega, hsn.lay⟩⟩
  clear hsn
  refine (Answer_ok _ knownA _ _ (by have h := HS.out; rw [← hz4] at h; exact h) Sl.nil (by decide) (by decide) (by decide)).mono ?_
  rintro e w5 ⟨rfl, hb5⟩
  rw [known_ans.1, known_ans.2]
  have HW5 := Lib.hid (HW3.out.trans (hb5.mono HW3.out.size))
  have HN5 := Lib.hid (HN3.out.below hb5 (show w1.heap.size < (w3.alloc (.cells (snC ⟨3, 14, 4, 8, 7, 11⟩).toArray 64)).heap.size by rw [hz4, HZ.out]; omega))
  clear hb5 HN3 HS hz4 HW3
  have heq : reqEq Q aknownQ = true := decide_eq_true HQ.out
  have hld := loadReq_row HN5.out
  go_wp2_with fail
  go_ret
  exact ⟨rfl, HW5.out⟩
end Go.Proofs.YtbfbcbhnknhgnaaGreatDoor
