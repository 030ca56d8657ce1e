/-
  HouseFaults: the law. Conditions: what 'known' gives is a premise here. The reference's Wrong, Right and Text of a job; the law's items and few. Conditions: as each states. HousePrints: the law. Conditions: what 'known' gives is a premise here.
-/
import Derived.Test.YtldjgpnbkbmgoaaGreatDoorPF6
import Derived.Test.YtldjgpnbkbmgoaaGreatDoorPF7
import Derived.Test.YtldjgpnbkbmgoaaGreatDoorPF12
set_option linter.unusedSimpArgs false
set_option linter.unusedVariables false
set_option maxRecDepth 100000
set_option maxHeartbeats 8000000
namespace Go.Proofs.YtldjgpnbkbmgoaaGreatDoor
open Go.RowKit Go.Lib
attribute [local go_sem ↓] load_req stop_req
def linesN : List UInt8 → Nat
  | [] => 0
  | [_] => 1
  | c :: d :: r => (if c = 10 then 1 else 0) + linesN (d :: r)
theorem linesN_count : ∀ s : List UInt8, s.count 10 ≤ linesN s ∧ linesN s ≤ s.length
  | [] => by simp [linesN]
  | [c] => by
    have : [c].count 10 ≤ [c].length := List.count_le_length
    simpa [linesN] using this
  | c :: d :: r => by
    obtain ⟨h1, h2⟩ := linesN_count (d :: r)
    rw [linesN, List.count_cons]
    simp only [List.length_cons] at h2 ⊢
    by_cases h : c = 10
    · subst h; simp; omega
    · have : (c == 10) = false := by simpa using h
      simp [this, h]; omega
theorem linesN_drop (s : List UInt8) (k : Nat) (h : k < s.length) : linesN (s.drop k) = (if s[k] = 10 ∨ k + 1 = s.length then 1 else 0) + linesN (s.drop (k + 1)) := by
  rw [List.drop_eq_getElem_cons h]
  cases hr : s.drop (k + 1) with
  | nil =>
    have := congrArg List.length hr
    simp only [List.length_drop, List.length_nil] at this
    rw [if_pos (.inr (by omega))]
    rfl
  | cons d r =>
    have := congrArg List.length hr
    simp only [List.length_drop, List.length_cons] at this
    rw [linesN]
    by_cases h1 : s[k] = 10
    · rw [if_pos h1, if_pos (.inl h1)]
    · rw [if_neg h1, if_neg (fun h => by
        rcases h with h | h
        · exact h1 h
        · omega)]
theorem lines_ok (s : List UInt8) (w : World) (hl : s.length ≤ 1000000) : Calls Tryz.prog 9 #[strV s] w fun e w' => e = .returned (.int .i64 (linesN s : Nat)) ∧ w' = w := by
  have hz := str_size s
  have hln := (linesN_count s).2
  obtain ⟨N, hN⟩ : ∃ N, N = linesN s := ⟨_, rfl⟩
  rw [← hN] at hln ⊢
  have HN := Lib.hid hN
  clear hN
  go_enter Tryz.func9, Tryz.ntmps9
  go_wp2_with fail
  go_loop [3, 4] (fun nv i => ∃ (k n : Nat), k ≤ s.length ∧ i = .int .i64 (k : Nat) ∧ nv = .int .i64 (n : Nat) ∧ n + linesN (s.drop k) = N) (fun _ i => (s.length - Go.RowKit.intOf i).toNat)
  case atStart => exact ⟨0, 0, Nat.zero_le _, rfl, rfl, by rw [HN.out]; simp⟩
  case round =>
    obtain ⟨k, n, hk, rfl, rfl, hn⟩ := hrel
    by_cases hlt : k < s.length
    · have hs := linesN_drop s k hlt
      have hidx : ∀ w, (Instr.index 9 (strV s) (.int .i64 (k : Int))).run Tryz.prog w = .ok (.int .u8 (s[k].toNat : Int)) w := fun w => str_at w hlt rfl
      obtain ⟨c, hc⟩ : ∃ c, c = s[k] := ⟨_, rfl⟩
      rw [← hc] at hs hidx
      obtain ⟨M, hM⟩ : ∃ M, M = linesN (s.drop (k + 1)) := ⟨_, rfl⟩
      rw [← hM] at hs
      have HM := Lib.hid hM
      rw [hs] at hn
      clear hs hc hM
      by_cases h1 : c = 10
      · have k1 : ((c.toNat : Int) == 10) = true := by rw [h1]; rfl
        rw [if_pos (.inl h1)] at hn
        clear h1
        go_wp2_with fail
        go_round
        case rel => exact ⟨k + 1, n + 1, by omega, by go_num, by go_num, by rw [← HM.out]; omega⟩
        case measure => simp [Go.RowKit.intOf]; omega
      · have k1 : ((c.toNat : Int) == 10) = false := by
          rw [beq_eq_false_iff_ne]
          intro e
          exact h1 (UInt8.toNat_inj.1 (by have : c.toNat = 10 := by omega
                                          simpa using this))
        by_cases h2 : k + 1 = s.length
        · have k2 : ((k : Int) == (s.length : Int) - 1) = true := by rw [beq_iff_eq]; omega
          rw [if_pos (.inr h2)] at hn
          clear h1
          go_wp2_with fail
          go_round
          case rel => exact ⟨k + 1, n + 1, by omega, by go_num, by go_num, by rw [← HM.out]; omega⟩
          case measure => simp [Go.RowKit.intOf]; omega
        · have k2 : ((k : Int) == (s.length : Int) - 1) = false := by rw [beq_eq_false_iff_ne]; omega
          rw [if_neg (fun h => h.elim h1 h2)] at hn
          clear h1
          go_wp2_with fail
          go_round
          case rel => exact ⟨k + 1, n, by omega, by go_num, rfl, by rw [← HM.out]; omega⟩
          case measure => simp [Go.RowKit.intOf]; omega
    · obtain rfl : k = s.length := by omega
      rw [List.drop_length] at hn
      have hn2 : n = N := by simpa [linesN] using hn
      go_wp2_with fail
      go_ret
      exact ⟨by first | rfl | rw [hn2], rfl⟩
theorem linesLen_one (s : List UInt8) : linesLen 1 s = if (cutC 10 s).2.2 = true then (cutC 10 s).1.length + 1 else s.length := by
  simp [linesLen]
theorem linesLen_succ : ∀ (n : Nat) (s : List UInt8), linesLen (n + 1) s = linesLen n s + linesLen 1 (s.drop (linesLen n s))
  | 0, s => by simp [linesLen]
  | n + 1, s => by
    have ih := linesLen_succ n (cutC 10 s).2.1
    rw [linesLen]
    by_cases h : (cutC 10 s).2.2 = true
    · rw [if_pos h, ih]
      have e : linesLen (n + 1) s = (cutC 10 s).1.length + 1 + linesLen n (cutC 10 s).2.1 := by rw [linesLen, if_pos h]
      rw [e, drop_line h]
      omega
    · rw [if_neg h]
      have e : linesLen (n + 1) s = s.length := by rw [linesLen, if_neg h]
      rw [e]
      simp [linesLen, cutC]
theorem cutC_first (s : List UInt8) : ∀ i, i < (cutC 10 s).1.length → ∃ h : i < s.length, s[i] ≠ 10 := by
  intro i hi
  cases hb : (cutC 10 s).2.2 with
  | true =>
    obtain ⟨h1, h2⟩ := cutC_some 10 s hb
    have hl := congrArg List.length h1
    simp only [List.length_append, List.length_cons] at hl
    refine ⟨by omega, fun e => h2 ?_⟩
    have : s[i]'(by omega) = (cutC 10 s).1[i] := by
      have := List.getElem_of_eq h1 (show i < s.length by omega)
      rw [this, List.getElem_append_left hi]
    have hm := List.getElem_mem hi
    rw [← this, e] at hm
    exact hm
  | false =>
    have key : ∀ l : List UInt8, (cutC 10 l).2.2 = false → (cutC 10 l).1 = l ∧ 10 ∉ l := by
      intro l
      induction l with
      | nil => intro _; exact ⟨rfl, by simp⟩
      | cons x l ih =>
        intro h
        unfold cutC at h ⊢
        by_cases hx : x = 10
        · rw [if_pos hx] at h; cases h
        · rw [if_neg hx] at h ⊢
          obtain ⟨a, b⟩ := ih h
          refine ⟨by simp only; rw [a], fun hm => ?_⟩
          rcases List.mem_cons.1 hm with hm | hm
          · exact hx hm.symm
          · exact b hm
    obtain ⟨a, b⟩ := key s hb
    rw [a] at hi
    exact ⟨hi, fun e => b (by rw [← e]; exact List.getElem_mem hi)⟩
theorem cutC_end (s : List UInt8) : (cutC 10 s).1.length = s.length ∧ linesLen 1 s = s.length ∨ ∃ h : (cutC 10 s).1.length < s.length, s[(cutC 10 s).1.length] = 10 ∧ linesLen 1 s = (cutC 10 s).1.length + 1 := by
  rw [linesLen_one]
  cases hb : (cutC 10 s).2.2 with
  | true =>
    right
    obtain ⟨h1, -⟩ := cutC_some 10 s hb
    have hl := congrArg List.length h1
    simp only [List.length_append, List.length_cons] at hl
    refine ⟨by omega, ?_, by rw [if_pos rfl]⟩
    have := List.getElem_of_eq h1 (show (cutC 10 s).1.length < s.length by omega)
    rw [this, List.getElem_append_right (Nat.le_refl _)]
    simp
  | false =>
    left
    have key : ∀ l : List UInt8, (cutC 10 l).2.2 = false → (cutC 10 l).1 = l := by
      intro l
      induction l with
      | nil => intro _; rfl
      | cons x l ih =>
        intro h
        unfold cutC at h ⊢
        by_cases hx : x = 10
        · rw [if_pos hx] at h; cases h
        · rw [if_neg hx] at h ⊢
          simp only
          rw [ih h]
    exact ⟨by rw [key s hb], by rw [if_neg (by decide)]⟩
structure LineAt (s : List UInt8) (a f b : Nat) : Prop where
  ha : a ≤ s.length
  inn : ∀ i, i < f → ∃ h : a + i < s.length, s[a + i] ≠ 10
  out : (a + f = s.length ∧ b = s.length) ∨ ∃ h : a + f < s.length, s[a + f] = 10 ∧ b = a + f + 1
  b_ : b = a + linesLen 1 (s.drop a)
theorem lineAt (s : List UInt8) (a : Nat) (h : a ≤ s.length) : LineAt s a (cutC 10 (s.drop a)).1.length (a + linesLen 1 (s.drop a)) := by
  have hl : (s.drop a).length = s.length - a := by simp
  refine ⟨h, fun i hi => ?_, ?_, rfl⟩
  · obtain ⟨h1, h2⟩ := cutC_first (s.drop a) i hi
    refine ⟨by omega, ?_⟩
    rwa [List.getElem_drop] at h2
  · rcases cutC_end (s.drop a) with ⟨h1, h2⟩ | ⟨h1, h2, h3⟩
    · left
      omega
    · right
      refine ⟨by omega, ?_, by omega⟩
      rwa [List.getElem_drop] at h2
theorem LineAt.le {s : List UInt8} {a f b : Nat} (h : LineAt s a f b) : b ≤ s.length := by
  rcases h.out with ⟨_, h⟩ | ⟨h1, _, h⟩ <;> omega
end Go.Proofs.YtldjgpnbkbmgoaaGreatDoor

namespace Go.Proofs.YtldjgpnbkbmgoaaGreatDoor
open Go.RowKit Go.Lib
attribute [local go_sem ↓] load_req stop_req
end Go.Proofs.YtldjgpnbkbmgoaaGreatDoor

namespace Go.Proofs.YtldjgpnbkbmgoaaGreatDoor
open Go.RowKit Go.Lib
attribute [local go_sem ↓] load_req stop_req
structure LP (w wx : World) (vs vi : Value) (ss : List Nat) (rs : List HRw) : Prop where
  b : Blk wx w.heap.size 26 (jC vs vi)
  j : JSl wx vs vi ss rs
  bel : Below w.heap.size w wx
theorem LP.to {w wx wy : World} {vs vi : Value} {ss : List Nat} {rs : List HRw} (h : LP w wx vs vi ss rs) (hb : Below wx.heap.size wx wy) : LP w wy vs vi ss rs :=
  ⟨h.b.below hb h.b.lt, h.j.below hb, h.bel.trans (hb.mono h.bel.size)⟩
theorem LP.drew {w wx : World} {vs vi : Value} {ss : List Nat} {rs : List HRw} (h : LP w wx vs vi ss rs) : LP w wx.drew vs vi ss rs := h.to (below_drew (Below.refl _ _))
theorem LP.start {w : World} {vs vi : Value} {ss : List Nat} {rs : List HRw} (h : JSl w vs vi ss rs) : LP w (w.alloc (.cells (jC vs vi) 26)) vs vi ss rs :=
  ⟨Blk.new w _ _, h.below ((Below.refl w.heap.size w).alloc (Nat.le_refl _) _), (Below.refl w.heap.size w).alloc (Nat.le_refl _) _⟩
theorem LP.cells {w wx : World} {vs vi : Value} {ss : List Nat} {rs : List HRw} (h : LP w wx vs vi ss rs) : wx.cell? ⟨w.heap.size, 0, none⟩ = some vs ∧ wx.cell? ⟨w.heap.size, 1, none⟩ = some vi := ⟨h.b.is 0 rfl, h.b.is 1 rfl⟩
abbrev Knows : Prop := ∀ w, Calls Tryz.prog 7 #[] w (fun e w' => e = .returned (.bool true) ∧ Below w.heap.size w w')
end Go.Proofs.YtldjgpnbkbmgoaaGreatDoor

