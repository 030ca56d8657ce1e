/-
  The reference's Wrong, Right and Text of a job; the law's items and few. Conditions: as each states. HousePrints: the law. Conditions: what 'known' gives is a premise here.
-/
import Derived.Test.YtldjgpnbkbmgoaaGreatDoorPB12
import Derived.Test.YtldjgpnbkbmgoaaGreatDoorPB6
set_option linter.unusedSimpArgs false
set_option linter.unusedVariables false
set_option maxRecDepth 100000
set_option maxHeartbeats 8000000
namespace Go.Proofs.YtldjgpnbkbmgoaaGreatDoor
open Go.RowKit Go.Lib
attribute [local go_sem ↓] load_req stop_req
def fewB (ss : List Nat) (rs : List HRw) : Bool := decide (rs.length ≤ 60) && (decide (ss.length ≤ 20) && rs.all fun r => decide (r.x.bs.length ≤ 600))
theorem fewB_iff {ss : List Nat} {rs : List HRw} : fewB ss rs = true ↔ rs.length ≤ 60 ∧ ss.length ≤ 20 ∧ ∀ r ∈ rs, r.x.bs.length ≤ 600 := by
  unfold fewB
  simp only [Bool.and_eq_true, decide_eq_true_eq, List.all_eq_true]
theorem fewB_no {ss : List Nat} {rs : List HRw} (h : ¬ (rs.length ≤ 60 ∧ ss.length ≤ 20 ∧ ∀ r ∈ rs, r.x.bs.length ≤ 600)) : fewB ss rs = false := by
  cases hj : fewB ss rs with
  | false => rfl
  | true => exact absurd (fewB_iff.1 hj) h
theorem few_ok (vs vi : Value) (ss : List Nat) (rs : List HRw) (w : World) (h1 : Sl usC w w.heap.size vs ss) (h2 : Sl hiC w w.heap.size vi rs) : Calls Tryz.prog 10 #[.agg #[vs, vi]] w (BPost w (fewB ss rs)) := by
  have hb1 := Blk.new w 26 #[vs, vi]
  have hW1 := (Below.refl w.heap.size w).alloc (Nat.le_refl _) (.cells #[vs, vi] 26)
  obtain ⟨w1, hst1⟩ : ∃ w1, w.alloc (.cells #[vs, vi] 26) = w1 := ⟨_, rfl⟩
  rw [hst1] at hb1 hW1
  have HW1 := Lib.hid hW1
  obtain ⟨A, ca, rfl, a1, a2, a3⟩ := h1
  obtain ⟨A', ca', rfl, b1, b2, b3⟩ := h2
  have c0 : w1.cell? ⟨w.heap.size, 0, none⟩ = some (.slice A ss.length ca) := hb1.is 0 rfl
  have c1 : w1.cell? ⟨w.heap.size, 1, none⟩ = some (.slice A' rs.length ca') := hb1.is 1 rfl
  have H3' := Lib.hid b3
  clear a2 a3 b2 b3 hb1 hW1
  by_cases l1 : 60 < rs.length
  · have HN := Lib.hid (fewB_no (ss := ss) (rs := rs) (fun h => by omega))
    go_enter Tryz.func10, Tryz.ntmps10
    go_wp2_with fail
    go_ret
    exact ⟨by rw [HN.out]; try rfl, HW1.out⟩
  by_cases l8 : 20 < ss.length
  · have HN := Lib.hid (fewB_no (ss := ss) (rs := rs) (fun h => by omega))
    go_enter Tryz.func10, Tryz.ntmps10
    go_wp2_with fail
    go_ret
    exact ⟨by rw [HN.out]; try rfl, HW1.out⟩
  go_enter Tryz.func10, Tryz.ntmps10
  go_wp2_with fail
  go_loop [3] (fun i => ∃ k : Nat, k ≤ rs.length ∧ i = .int .i64 (k : Nat) ∧ Hid (∀ r ∈ rs.take k, r.x.bs.length ≤ 600)) (fun i => (rs.length - Go.RowKit.intOf i).toNat)
  case atStart => exact ⟨0, Nat.zero_le _, rfl, Lib.hid (by simp)⟩
  case round =>
    obtain ⟨k, hk, rfl, HALL⟩ := hrel
    by_cases hlt : k < rs.length
    · obtain ⟨b, off, rfl, hb, hlay⟩ := H3'.out (by omega)
      have hrow := (hlay.of_heap (HW1.out.block b hb)).elem hiC_len k hlt
      have HT := Lib.hid (List.take_succ_eq_append_getElem hlt)
      have hmem := List.getElem_mem hlt
      obtain ⟨r, hr⟩ : ∃ r, r = rs[k] := ⟨_, rfl⟩
      rw [← hr] at hrow HT hmem
      have x2 : w1.cell? ⟨b, off + k * 29 + 2, none⟩ = some (.slice r.A r.x.bs.length r.cap) := hrow 2 _ rfl
      clear hlay hr hrow
      by_cases h0 : 600 < r.x.bs.length
      · have HN := Lib.hid (fewB_no (ss := ss) (rs := rs) (fun h => by have := h.2.2 r hmem; omega))
        clear hmem
        go_wp2_with fail
        go_ret
        exact ⟨by rw [HN.out]; try rfl, HW1.out⟩
      · have HA2 := Lib.hid (show ∀ x ∈ rs.take (k + 1), x.x.bs.length ≤ 600 from fun x hx => by
          rw [HT.out] at hx
          rcases List.mem_append.1 hx with hx | hx
          · exact HALL.out x hx
          · simp only [List.mem_cons, List.not_mem_nil, or_false] at hx
            rw [hx]
            omega)
        clear hmem
        go_wp2_with fail
        go_round
        case rel => exact ⟨k + 1, by omega, by go_num, HA2⟩
        case measure => simp [Go.RowKit.intOf]; omega
    · obtain rfl : k = rs.length := by omega
      rw [List.take_length] at HALL
      have HY := Lib.hid (fewB_iff (ss := ss).2 ⟨by omega, by omega, HALL.out⟩)
      go_wp2_with fail
      go_ret
      exact ⟨by rw [HY.out]; try rfl, HW1.out⟩
end Go.Proofs.YtldjgpnbkbmgoaaGreatDoor

namespace Go.Proofs.YtldjgpnbkbmgoaaGreatDoor
open Go.RowKit Go.Lib
attribute [local go_sem ↓] load_req stop_req
structure LP (w wx : World) (vs vi : Value) (ss : List Nat) (rs : List HRw) : Prop where
  b : Blk wx w.heap.size 26 (jC vs vi)
  j : JSl wx vs vi ss rs
  bel : Below w.heap.size w wx
theorem LP.to {w wx wy : World} {vs vi : Value} {ss : List Nat} {rs : List HRw} (h : LP w wx vs vi ss rs) (hb : Below wx.heap.size wx wy) : LP w wy vs vi ss rs :=
  ⟨h.b.below hb h.b.lt, h.j.below hb, h.bel.trans (hb.mono h.bel.size)⟩
theorem LP.drew {w wx : World} {vs vi : Value} {ss : List Nat} {rs : List HRw} (h : LP w wx vs vi ss rs) : LP w wx.drew vs vi ss rs := h.to (below_drew (Below.refl _ _))
theorem LP.start {w : World} {vs vi : Value} {ss : List Nat} {rs : List HRw} (h : JSl w vs vi ss rs) : LP w (w.alloc (.cells (jC vs vi) 26)) vs vi ss rs :=
  ⟨Blk.new w _ _, h.below ((Below.refl w.heap.size w).alloc (Nat.le_refl _) _), (Below.refl w.heap.size w).alloc (Nat.le_refl _) _⟩
theorem LP.cells {w wx : World} {vs vi : Value} {ss : List Nat} {rs : List HRw} (h : LP w wx vs vi ss rs) : wx.cell? ⟨w.heap.size, 0, none⟩ = some vs ∧ wx.cell? ⟨w.heap.size, 1, none⟩ = some vi := ⟨h.b.is 0 rfl, h.b.is 1 rfl⟩
abbrev Knows : Prop := ∀ w, Calls Tryz.prog 7 #[] w (fun e w' => e = .returned (.bool true) ∧ Below w.heap.size w w')
end Go.Proofs.YtldjgpnbkbmgoaaGreatDoor

