/-
  The program's num.Hex, ReadHex. Conditions: as each states.
-/
import Derived.Test.YtbfbcbhnknhgnaaDoorParse
namespace Go.Proofs.YtbfbcbhnknhgnaaDoor
open Go.RowKit Go.Lib

theorem digit_ok (n : Nat) (hn : n < 16) (w : World) : Calls Tryd.prog 46 #[.int .u8 n] w fun e w' => e = .returned (.int .u8 ((hd n).toNat : Int)) ∧ w' = w := by
  have h0 : (n : Int) ≤ 15 := by omega
  rw [hd_nat n hn]
  by_cases h : n < 10
  · have h1 : (n : Int) < 10 := by omega
    rw [if_pos h]
    go_enter Tryd.func46, Tryd.ntmps46
    go_wp2
    go_ret
    exact ⟨by rw [show ((48 + n : Nat) : Int) = 48 + (n : Int) by omega]; rfl, rfl⟩
  · have h1 : (10 : Int) ≤ (n : Int) := by omega
    rw [if_neg h]
    go_enter Tryd.func46, Tryd.ntmps46
    go_wp2
    go_ret
    exact ⟨by rw [show ((87 + n : Nat) : Int) = 97 + (n : Int) - 10 by omega]; rfl, rfl⟩

theorem pow16 (i : Nat) : (2 : Int) ^ (4 * i) = ((16 ^ i : Nat) : Int) := by
  rw [Int.pow_mul]
  norm_cast
theorem and15 (n i : Nat) (hn : n < 18446744073709551616) : bits .and .u64 ((n : Int) / 2 ^ (4 * i)) 15 % 256 = ((n / 16 ^ i % 16 : Nat) : Int) := by
  rw [pow16, ← Int.natCast_ediv]
  have hd : n / 16 ^ i < 18446744073709551616 := Nat.lt_of_le_of_lt (Nat.div_le_self _ _) hn
  have h := u64_and_nat (n / 16 ^ i) 15 hd (by decide)
  have e : n / 16 ^ i &&& 15 = n / 16 ^ i % 16 := Nat.and_two_pow_sub_one_eq_mod _ 4
  rw [e] at h
  rw [show ((15 : Nat) : Int) = 15 from rfl] at h
  rw [h]
  omega

set_option maxRecDepth 100000 in
set_option maxHeartbeats 1000000 in
theorem hex_ok (n : Nat) (w : World) (hn : n < 18446744073709551616) : Calls Tryd.prog 24 #[.int .u64 n] w (SPost w (hexT n)) := by
  have H := Lib.hid hn
  go_enter Tryd.func24, Tryd.ntmps24
  go_wp2
  go_loopw [5] (fun iv wr => ∃ i cs, i ≤ 16 ∧ iv = .int .i64 (i : Nat) ∧ Blk wr w.heap.size 90 cs ∧ cs.size = 16 ∧ cs.toList.drop (16 - i) = (hexF i n).flatMap byC ∧ Below w.heap.size w wr) (fun iv _ => (16 - intOf iv).toNat)
  case atStart => exact ⟨0, _, by omega, rfl, Blk.new w _ _, rfl, rfl, (Below.refl w.heap.size w).alloc (Nat.le_refl _) _⟩
  case round =>
    obtain ⟨i, cs, hi, rfl, hblk, hsz, hcs, hbel⟩ := hrel
    by_cases hlt : i < 16
    · obtain ⟨j0, hj0⟩ : ∃ j0, j0 + i + 1 = 16 := ⟨15 - i, by omega⟩
      have hix : (15 : Int) - (i : Int) = (j0 : Int) := by omega
      obtain ⟨u0, hu0⟩ : ∃ u0, cs[j0]? = some u0 := ⟨_, Array.getElem?_eq_getElem (by omega)⟩
      have c0 := hblk.is j0 hu0
      have f0 := hblk.frozen j0
      have hi16 : (i : Int) < 16 := by omega
      have hj16 : (j0 : Int) < 16 := by omega
      have HB := Lib.hid hblk
      have HC := Lib.hid hcs
      have HS := Lib.hid hsz
      have HJ := Lib.hid hj0
      have HW := Lib.hid hbel
      clear hblk hcs hsz hj0 hu0 hbel
      go_wp2_with fail
      rw [and15 n i H.out]
      refine (digit_ok _ (by omega) wr).mono ?_
      rintro e w' ⟨rfl, hw'⟩
      rw [hw']
      clear hw' w'
      go_wp2
      go_roundw
      case rel =>
        have hj := HJ.out
        refine ⟨i + 1, _, by omega, by go_num, HB.out.put j0 _, by rw [Array.size_setIfInBounds]; exact HS.out, ?_, HW.out.setCell (Nat.le_refl _) _⟩
        rw [show 16 - (i + 1) = j0 by omega, Array.toList_setIfInBounds, drop_set (by simp [HS.out]; omega), hexF_front, show j0 + 1 = 16 - i by omega, HC.out]
        rfl
      case measure => simp [intOf]; omega
    · obtain rfl : i = 16 := by omega
      have hconv := hblk.tail_str 0 (hexT n) hcs (by rw [hsz]; decide) (by rw [hsz]; simp [hexT, hexF_len])
      rw [show (hexT n).length = 16 from hexF_len 16 n] at hconv
      go_wp2
      go_ret
      exact ⟨rfl, hbel⟩

theorem or16 (m x : Nat) (hm : m < 1152921504606846976) (hx : x < 16) : bits .or .u64 ((m : Int) * 16) (x : Int) = ((16 * m + x : Nat) : Int) := by
  have h := u64_or_nat (16 * m) x (by omega) (by omega)
  rw [← Nat.two_pow_add_eq_or_of_lt (i := 4) (b := x) hx m] at h
  rw [show (2 : Nat) ^ 4 * m + x = 16 * m + x from rfl] at h
  rw [← h]
  congr 1
  omega
theorem hv_nat (c : UInt8) : hv c = if 48 ≤ c.toNat ∧ c.toNat ≤ 57 then c.toNat - 48 else if 97 ≤ c.toNat ∧ c.toNat ≤ 102 then c.toNat - 87 else 16 := rfl

set_option maxRecDepth 100000 in
set_option maxHeartbeats 1000000 in
theorem readhex_ok (l : List UInt8) (w : World) (hl : l.length ≤ maxLen) : Calls Tryd.prog 52 #[strV l] w fun e w' => e = .returned (.tuple #[.int .u64 ((rhex l).1 : Nat), .int .i64 (rhex l).2]) ∧ w' = w := by
  unfold maxLen at hl
  by_cases h16 : l.length = 16
  · have hb : ((l.length : Int) != 16) = false := by simp [h16]
    have hr : rhex l = res 11 (rhF l 0) := by unfold rhex; rw [if_neg (by simp [h16])]
    have HR := Lib.hid hr
    have HL := Lib.hid h16
    clear hr h16
    go_enter Tryd.func52, Tryd.ntmps52
    go_wp2
    go_loop [4, 12] (fun nv iv => ∃ k m, k ≤ 16 ∧ iv = .int .i64 (k : Nat) ∧ nv = .int .u64 (m : Nat) ∧ m < 16 ^ k ∧ rhF l 0 = rhF (l.drop k) m) (fun _ iv => (l.length - intOf iv).toNat)
    case atStart => exact ⟨0, 0, by omega, rfl, rfl, by decide, rfl⟩
    case round =>
      obtain ⟨k, m, hk, rfl, rfl, hm, hpf⟩ := hrel
      by_cases hlt : k < 16
      · have hkl : k < l.length := by rw [HL.out]; exact hlt
        have hki : (k : Int) < (l.length : Int) := by omega
        obtain ⟨y, hy⟩ : ∃ y, y = (l[k]).toNat := ⟨_, rfl⟩
        have hyk : ∀ w, (Instr.index 9 (strV l) (.int .i64 (k : Int))).run Tryd.prog w = .ok (.int .u8 (y : Int)) w := fun w => by rw [hy]; exact str_ix hkl w
        obtain ⟨h, hh⟩ : ∃ h, h = hv l[k] := ⟨_, rfl⟩
        have hdr : rhF l 0 = if h < 16 then rhF (l.drop (k + 1)) (16 * m + h) else none := by rw [hpf, List.drop_eq_getElem_cons hkl, rhF_cons, ← hh]
        have hhy : h = if 48 ≤ y ∧ y ≤ 57 then y - 48 else if 97 ≤ y ∧ y ≤ 102 then y - 87 else 16 := by rw [hh, hv_nat, ← hy]
        have hyl : y < 256 := by rw [hy]; exact (l[k]).toNat_lt
        have hm15 : m < 1152921504606846976 := by
          have := Nat.lt_of_lt_of_le hm (Nat.pow_le_pow_right (by omega) (show k ≤ 15 by omega))
          exact Nat.lt_of_lt_of_eq this (by decide)
        have hm16 : m < 18446744073709551616 := by omega
        have HF := Lib.hid hdr
        have HH := Lib.hid hhy
        have HM := Lib.hid hm
        clear hy hh hdr hhy hpf hm
        have hc : (48 ≤ y ∧ y ≤ 57) ∨ (97 ≤ y ∧ y ≤ 102) ∨ (¬ (48 ≤ y ∧ y ≤ 57) ∧ ¬ (97 ≤ y ∧ y ≤ 102)) := by omega
        rcases hc with ⟨c1, c2⟩ | ⟨c1, c2⟩ | ⟨c1, c2⟩
        · have d1 : (48 : Int) ≤ (y : Int) := by omega
          have d2 : (y : Int) ≤ 57 := by omega
          go_wp2
          go_round
          case rel =>
            have hv : h = y - 48 := by rw [HH.out, if_pos ⟨c1, c2⟩]
            have hb : h < 16 := by omega
            refine ⟨k + 1, 16 * m + h, by omega, by go_num, ?_, by have := HM.out; rw [Nat.pow_succ]; omega, by rw [HF.out, if_pos hb]⟩
            rw [show (y : Int) - 48 = (h : Int) by omega, or16 m h hm15 hb]
          case measure => simp [intOf]; omega
        · have d1 : (97 : Int) ≤ (y : Int) := by omega
          have d2 : (y : Int) ≤ 102 := by omega
          go_wp2
          go_round
          case rel =>
            have hv : h = y - 87 := by rw [HH.out, if_neg (by omega), if_pos ⟨c1, c2⟩]
            have hb : h < 16 := by omega
            refine ⟨k + 1, 16 * m + h, by omega, by go_num, ?_, by have := HM.out; rw [Nat.pow_succ]; omega, by rw [HF.out, if_pos hb]⟩
            rw [show (y : Int) - 97 + 10 = (h : Int) by omega, or16 m h hm15 hb]
          case measure => simp [intOf]; omega
        · have hv : h = 16 := by rw [HH.out, if_neg c1, if_neg c2]
          have hn : rhex l = (0, 11) := by rw [HR.out, HF.out, if_neg (by omega)]; rfl
          have HN := Lib.hid hn
          clear hn hv
          have e1 : (48 : Int) ≤ (y : Int) → ¬ ((y : Int) ≤ 57) := by omega
          by_cases q1 : (48 : Int) ≤ (y : Int)
          · have q2 := e1 q1
            clear e1
            go_wp2
            all_goals
              rw [HN.out]
              go_ret2
              exact ⟨rfl, rfl⟩
          · clear e1
            go_wp2
            all_goals
              rw [HN.out]
              go_ret2
              exact ⟨rfl, rfl⟩
      · obtain rfl : k = 16 := by omega
        have hge : (l.length : Int) ≤ 16 := by have := HL.out; omega
        have hn : rhex l = (m, 0) := by rw [HR.out, hpf, List.drop_of_length_le (by rw [HL.out]; omega)]; rfl
        have HN := Lib.hid hn
        clear hn hpf hm
        go_wp2
        rw [HN.out]
        go_ret2
        exact ⟨rfl, rfl⟩
  · have hb : ((l.length : Int) != 16) = true := by simp; omega
    have hn : rhex l = (0, 11) := by unfold rhex; rw [if_pos h16]
    have HN := Lib.hid hn
    clear hn h16
    go_enter Tryd.func52, Tryd.ntmps52
    go_wp2
    rw [HN.out]
    go_ret2
    exact ⟨rfl, rfl⟩
end Go.Proofs.YtbfbcbhnknhgnaaDoor
