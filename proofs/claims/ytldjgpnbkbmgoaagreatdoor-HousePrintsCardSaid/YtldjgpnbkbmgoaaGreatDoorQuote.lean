/-
  The program's num.Text, Hex. Conditions: the number is a uint64.
  The program's num.Parse, ReadHex, Hex. Conditions: as each states.
  The program's num.Hex, ReadHex. Conditions: as each states.
  The library's strings.Join, strings.Split, strings.Builder, laid over this program by the shelf's contracts. Conditions: as each states.
  A text's word: ask.quoted, ask.unquoted. Conditions: as each states.
-/
import Derived.Test.YtldjgpnbkbmgoaaGreatDoorWords
import Derived.Test.YtldjgpnbkbmgoaaGreatDoorLong
import Derived.Shelf.Strings.OnBuilder
import Derived.Shelf.Strings.BuilderK
import Derived.Shelf.Strings.Split
namespace Go.Proofs.YtldjgpnbkbmgoaaGreatDoor
open Go.RowKit Go.Lib

def SPost (w : World) (l : List UInt8) (e : Ending) (w' : World) : Prop := e = .returned (strV l) ∧ Below w.heap.size w w'

theorem drop_set {l : List Value} {a : Nat} {u : Value} (h : a < l.length) : (l.set a u).drop a = u :: l.drop (a + 1) := by
  rw [List.drop_set, if_neg (by omega), Nat.sub_self, List.drop_eq_getElem_cons h]
  rfl
/-- A tail of an array of bytes, as a text. -/
theorem Blk.tail_str {w : World} {g : Nat} {t : TypeId} {cs : Array Value} (h : Blk w g t cs) (a : Nat) (l : List UInt8) (hl : cs.toList.drop a = l.flatMap byC) (h63 : cs.size ≤ maxLen) (hs : a + l.length = cs.size) :
    (convert 52 9 (.slice (some ⟨g, a, none⟩) l.length l.length)).run Tryz.prog w = .ok (strV l) w := by
  refine Sl.str (B := w.heap.size) ⟨some ⟨g, a, none⟩, l.length, rfl, Nat.le_refl _, by omega, fun _ => ⟨g, a, rfl, h.lt, ?_⟩⟩
  rw [← hl]
  have := h.lay.drop a
  rwa [Nat.zero_add] at this

set_option maxRecDepth 100000 in
set_option maxHeartbeats 1000000 in
theorem ntext_ok (n : Nat) (w : World) (hn : n < 18446744073709551616) : Calls Tryz.prog 66 #[.int .u64 n] w (SPost w (txt n)) := by
  have H := Lib.hid hn
  clear hn
  go_enter Tryz.func66, Tryz.ntmps66
  go_wp2
  go_loopw [0, 4] (fun nv av wr => ∃ m a0 L cs, a0 < 20 ∧ nv = .int .u64 (m : Nat) ∧ av = .int .i64 ((a0 + 1 : Nat) : Int) ∧ Blk wr w.heap.size 155 cs ∧ cs.size = 20 ∧ cs.toList.drop (a0 + 1) = L.flatMap byC ∧ a0 + 1 + L.length = 20 ∧ txtF a0 m ++ L = txt n ∧ m < 18446744073709551616 ∧ m < 10 ^ (a0 + 1) ∧ Below w.heap.size w wr) (fun _ av _ => (RowKit.intOf av).toNat)
  case atStart => exact ⟨n, 19, [], _, by omega, rfl, rfl, Blk.new w _ _, rfl, rfl, rfl, by simp [txt], H.out, Nat.lt_trans H.out (by decide), (Below.refl w.heap.size w).alloc (Nat.le_refl _) _⟩
  case round =>
    obtain ⟨m, a0, L, cs, ha, rfl, rfl, hblk, hsz, hcs, hL, htx, hm, hp, hbel⟩ := hrel
    have q1 : (0 : Int) ≤ (m : Int) % 10 := by omega
    have q2 : (m : Int) % 10 ≤ 9 := by omega
    obtain ⟨u0, hu0⟩ : ∃ u0, cs[a0]? = some u0 := ⟨_, Array.getElem?_eq_getElem (by omega)⟩
    have c0 := hblk.is a0 hu0
    have f0 := hblk.frozen a0
    have hi20 : (a0 : Int) ≤ 20 := by omega
    have hi0 : (0 : Int) ≤ (a0 : Int) := by omega
    have hv : Value.int .u8 (48 + (m : Int) % 10) = Value.int .u8 ((dg m).toNat : Int) := by rw [dg_nat]; congr 1
    have hcs2 : (cs.setIfInBounds a0 (.int .u8 (48 + (m : Int) % 10))).toList.drop a0 = (dg m :: L).flatMap byC := by
      rw [Array.toList_setIfInBounds, drop_set (by simpa [hsz] using ha), hcs, hv]
      rfl
    have hblk2 := hblk.put a0 (.int .u8 (48 + (m : Int) % 10))
    have hconv := hblk2.tail_str a0 (dg m :: L) hcs2 (by rw [Array.size_setIfInBounds, hsz]; decide) (by rw [Array.size_setIfInBounds, hsz, List.length_cons]; omega)
    rw [show (dg m :: L).length = 20 - a0 by rw [List.length_cons]; omega] at hconv
    have HW := Lib.hid (hbel.setCell (p := ⟨w.heap.size, a0, none⟩) (Nat.le_refl _) (.int .u8 (48 + (m : Int) % 10)))
    have HB := Lib.hid hblk2
    have HC := Lib.hid hcs2
    have HS := Lib.hid hsz
    have HL := Lib.hid hL
    have HT := Lib.hid htx
    have HP := Lib.hid hp
    clear hblk2 hcs2 hsz hL htx hblk hcs hbel hu0 hv hp
    by_cases h10 : m < 10
    · have hz : ((m : Int) / 10 == 0) = true := by simp; omega
      have hfin : dg m :: L = txt n := by
        rw [← HT.out]
        cases a0 with
        | zero => rfl
        | succ k => rw [txtF, if_pos h10]; rfl
      have HF := Lib.hid hfin
      clear hfin
      go_wp2
      go_ret
      rw [HF.out]
      exact ⟨rfl, HW.out⟩
    · have hz : ((m : Int) / 10 == 0) = false := by simp; omega
      clear hconv
      go_wp2
      go_roundw
      case rel =>
        have hp := HP.out
        have h1 : 1 ≤ a0 := by
          rcases Nat.eq_zero_or_pos a0 with h | h
          · subst h
            simp at hp
            omega
          · exact h
        obtain ⟨a1, rfl⟩ : ∃ a1, a0 = a1 + 1 := ⟨a0 - 1, by omega⟩
        have hL := HL.out
        refine ⟨m / 10, a1, dg m :: L, _, by omega, by go_num, rfl, HB.out, by rw [Array.size_setIfInBounds]; exact HS.out, HC.out, by rw [List.length_cons]; omega, ?_, by omega, by rw [Nat.pow_succ] at hp; omega, HW.out⟩
        rw [← HT.out, txtF, if_neg h10, List.append_assoc]
        rfl
      case measure => simp [RowKit.intOf]
end Go.Proofs.YtldjgpnbkbmgoaaGreatDoor

namespace Go.Proofs.YtldjgpnbkbmgoaaGreatDoor
open Go.RowKit Go.Lib

theorem str_ix {t : List UInt8} {i : Nat} (h : i < t.length) (w : World) : (Instr.index 9 (strV t) (.int .i64 (i : Int))).run Tryz.prog w = .ok (.int .u8 ((t[i]).toNat : Int)) w := by
  have hs := str_size t
  rw [run_index_string (P := Tryz.prog) (w := w) 9 _ .i64 _ Tryz.underlying9, dif_pos ⟨by omega, by rw [hs]; omega⟩]
  rfl

set_option maxRecDepth 100000 in
set_option maxHeartbeats 1000000 in
theorem parse_ok (l : List UInt8) (w : World) (hl : l.length ≤ maxLen) : Calls Tryz.prog 56 #[strV l] w fun e w' => e = .returned (.tuple #[.int .u64 ((par l).1 : Nat), .int .i64 (par l).2]) ∧ w' = w := by
  unfold maxLen at hl
  by_cases h0 : l = []
  · subst h0
    go_enter Tryz.func56, Tryz.ntmps56
    go_wp2
    go_ret2
    exact ⟨rfl, rfl⟩
  · have hp : 0 < l.length := by
      rcases Nat.eq_zero_or_pos l.length with h | h
      · exact absurd (List.eq_nil_of_length_eq_zero h) h0
      · exact h
    have he : l.isEmpty = false := by simpa using h0
    obtain ⟨x, hx⟩ : ∃ x, x = (l[0]).toNat := ⟨_, rfl⟩
    have hx0 : ∀ w, (Instr.index 9 (strV l) (.int .i64 0)).run Tryz.prog w = .ok (.int .u8 (x : Int)) w := fun w => by rw [hx]; exact str_ix hp w
    have HX := Lib.hid hx
    clear hx
    have hcond : (l = [] ∨ (1 < l.length ∧ l.head? = some 48)) ↔ (1 < l.length ∧ x = 48) := by
      have e : l.head? = some l[0] := by rw [List.head?_eq_getElem?, List.getElem?_eq_getElem hp]
      rw [e, HX.out]
      simp only [h0, false_or, Option.some.injEq, and_congr_right_iff]
      intro _
      constructor
      · intro h; rw [h]; rfl
      · intro h; exact UInt8.toNat_inj.1 h
    have H0 := Lib.hid h0
    clear h0
    by_cases h1 : 1 < l.length ∧ x = 48
    · have hpar : par l = (0, 10) := by unfold par; rw [if_pos (hcond.2 h1)]
      obtain ⟨h1, h2⟩ := h1
      have h1' : (1 : Int) < (l.length : Int) := by omega
      have hb : ((x : Int) == 48) = true := by simp; omega
      have HP := Lib.hid hpar
      clear hpar hcond h2
      go_enter Tryz.func56, Tryz.ntmps56
      go_wp2
      rw [HP.out]
      go_ret2
      exact ⟨rfl, rfl⟩
    · have hpar : par l = res 10 (parF l 0) := by unfold par; rw [if_neg (fun h => h1 (hcond.1 h))]
      have HP := Lib.hid hpar
      have hor : (1 : Int) < (l.length : Int) ∧ ((x : Int) == 48) = false ∨ (l.length : Int) ≤ 1 := by
        by_cases h2 : 1 < l.length
        · exact .inl ⟨by omega, by simp; omega⟩
        · exact .inr (by omega)
      clear hpar hcond h1
      rcases hor with ⟨h1, h2⟩ | h1
      all_goals
        go_enter Tryz.func56, Tryz.ntmps56
        go_wp2
        go_loop [4, 21] (fun nv iv => ∃ k m, k ≤ l.length ∧ iv = .int .i64 (k : Nat) ∧ nv = .int .u64 (m : Nat) ∧ m < 18446744073709551616 ∧ parF l 0 = parF (l.drop k) m) (fun _ iv => (l.length - RowKit.intOf iv).toNat)
        case atStart => exact ⟨0, 0, Nat.zero_le _, rfl, rfl, by omega, rfl⟩
        case round =>
          obtain ⟨k, m, hk, rfl, rfl, hm, hpf⟩ := hrel
          by_cases hlt : k < l.length
          · obtain ⟨y, hy⟩ : ∃ y, y = (l[k]).toNat := ⟨_, rfl⟩
            have hyk : ∀ w, (Instr.index 9 (strV l) (.int .i64 (k : Int))).run Tryz.prog w = .ok (.int .u8 (y : Int)) w := fun w => by rw [hy]; exact str_ix hlt w
            have hdr : parF l 0 = if 48 ≤ y ∧ y ≤ 57 ∧ 10 * m + (y - 48) < 18446744073709551616 then parF (l.drop (k + 1)) (10 * m + (y - 48)) else none := by rw [hpf, List.drop_eq_getElem_cons hlt, parF_cons, ← hy]
            have HY := Lib.hid hy
            have HF := Lib.hid hdr
            have hyl : y < 256 := by rw [hy]; exact (l[k]).toNat_lt
            clear hy hdr hpf
            by_cases hc : y < 48
            · have hc' : (y : Int) < 48 := by omega
              have hn : par l = (0, 10) := by rw [HP.out, HF.out, if_neg (by omega)]; rfl
              have HN := Lib.hid hn
              clear hn
              go_wp2
              go_ret2
              rw [HN.out]
              exact ⟨rfl, rfl⟩
            · have hc1 : (48 : Int) ≤ (y : Int) := by omega
              by_cases hc2 : 57 < y
              · have hc' : (57 : Int) < (y : Int) := by omega
                have hn : par l = (0, 10) := by rw [HP.out, HF.out, if_neg (by omega)]; rfl
                have HN := Lib.hid hn
                clear hn
                go_wp2
                go_ret2
                rw [HN.out]
                exact ⟨rfl, rfl⟩
              · have hc3 : (y : Int) ≤ 57 := by omega
                go_wp2
                · have hlt : (18446744073709551615 - ((y : Int) - 48)) / 10 < (m : Int) := by assumption
                  have hn : par l = (0, 10) := by rw [HP.out, HF.out, if_neg (by omega)]; rfl
                  rw [hn]
                  go_ret2
                  exact ⟨rfl, rfl⟩
                · have hle : (m : Int) ≤ (18446744073709551615 - ((y : Int) - 48)) / 10 := by assumption
                  go_round
                  case rel => exact ⟨k + 1, 10 * m + (y - 48), by omega, by go_num, by rw [show ((10 * m + (y - 48) : Nat) : Int) = 10 * (m : Int) + ((y : Int) - 48) by omega], by omega, by rw [HF.out, if_pos (by omega)]⟩
                  case measure => simp [RowKit.intOf]; omega
          · obtain rfl : k = l.length := by omega
            have hn : par l = (m, 0) := by rw [HP.out, hpf, List.drop_length]; rfl
            have HN := Lib.hid hn
            clear hn hpf
            go_wp2
            go_ret2
            rw [HN.out]
            exact ⟨rfl, rfl⟩
end Go.Proofs.YtldjgpnbkbmgoaaGreatDoor

namespace Go.Proofs.YtldjgpnbkbmgoaaGreatDoor
open Go.RowKit Go.Lib

theorem digit_ok (n : Nat) (hn : n < 16) (w : World) : Calls Tryz.prog 41 #[.int .u8 n] w fun e w' => e = .returned (.int .u8 ((hd n).toNat : Int)) ∧ w' = w := by
  have h0 : (n : Int) ≤ 15 := by omega
  rw [hd_nat n hn]
  by_cases h : n < 10
  · have h1 : (n : Int) < 10 := by omega
    rw [if_pos h]
    go_enter Tryz.func41, Tryz.ntmps41
    go_wp2
    go_ret
    exact ⟨by rw [show ((48 + n : Nat) : Int) = 48 + (n : Int) by omega]; rfl, rfl⟩
  · have h1 : (10 : Int) ≤ (n : Int) := by omega
    rw [if_neg h]
    go_enter Tryz.func41, Tryz.ntmps41
    go_wp2
    go_ret
    exact ⟨by rw [show ((87 + n : Nat) : Int) = 97 + (n : Int) - 10 by omega]; rfl, rfl⟩

theorem pow16 (i : Nat) : (2 : Int) ^ (4 * i) = ((16 ^ i : Nat) : Int) := by
  rw [Int.pow_mul]
  norm_cast
theorem and15 (n i : Nat) (hn : n < 18446744073709551616) : bits .and .u64 ((n : Int) / 2 ^ (4 * i)) 15 % 256 = ((n / 16 ^ i % 16 : Nat) : Int) := by
  rw [pow16, ← Int.natCast_ediv]
  have hd : n / 16 ^ i < 18446744073709551616 := Nat.lt_of_le_of_lt (Nat.div_le_self _ _) hn
  have h := u64_and_nat (n / 16 ^ i) 15 hd (by decide)
  have e : n / 16 ^ i &&& 15 = n / 16 ^ i % 16 := Nat.and_two_pow_sub_one_eq_mod _ 4
  rw [e] at h
  rw [show ((15 : Nat) : Int) = 15 from rfl] at h
  rw [h]
  omega

set_option maxRecDepth 100000 in
set_option maxHeartbeats 1000000 in
theorem hex_ok (n : Nat) (w : World) (hn : n < 18446744073709551616) : Calls Tryz.prog 23 #[.int .u64 n] w (SPost w (hexT n)) := by
  have H := Lib.hid hn
  go_enter Tryz.func23, Tryz.ntmps23
  go_wp2
  go_loopw [5] (fun iv wr => ∃ i cs, i ≤ 16 ∧ iv = .int .i64 (i : Nat) ∧ Blk wr w.heap.size 87 cs ∧ cs.size = 16 ∧ cs.toList.drop (16 - i) = (hexF i n).flatMap byC ∧ Below w.heap.size w wr) (fun iv _ => (16 - RowKit.intOf iv).toNat)
  case atStart => exact ⟨0, _, by omega, rfl, Blk.new w _ _, rfl, rfl, (Below.refl w.heap.size w).alloc (Nat.le_refl _) _⟩
  case round =>
    obtain ⟨i, cs, hi, rfl, hblk, hsz, hcs, hbel⟩ := hrel
    by_cases hlt : i < 16
    · obtain ⟨j0, hj0⟩ : ∃ j0, j0 + i + 1 = 16 := ⟨15 - i, by omega⟩
      have hix : (15 : Int) - (i : Int) = (j0 : Int) := by omega
      obtain ⟨u0, hu0⟩ : ∃ u0, cs[j0]? = some u0 := ⟨_, Array.getElem?_eq_getElem (by omega)⟩
      have c0 := hblk.is j0 hu0
      have f0 := hblk.frozen j0
      have hi16 : (i : Int) < 16 := by omega
      have hj16 : (j0 : Int) < 16 := by omega
      have HB := Lib.hid hblk
      have HC := Lib.hid hcs
      have HS := Lib.hid hsz
      have HJ := Lib.hid hj0
      have HW := Lib.hid hbel
      clear hblk hcs hsz hj0 hu0 hbel
      go_wp2_with fail
      rw [and15 n i H.out]
      refine (digit_ok _ (by omega) wr).mono ?_
      rintro e w' ⟨rfl, hw'⟩
      rw [hw']
      clear hw' w'
      go_wp2
      go_roundw
      case rel =>
        have hj := HJ.out
        refine ⟨i + 1, _, by omega, by go_num, HB.out.put j0 _, by rw [Array.size_setIfInBounds]; exact HS.out, ?_, HW.out.setCell (Nat.le_refl _) _⟩
        rw [show 16 - (i + 1) = j0 by omega, Array.toList_setIfInBounds, drop_set (by simp [HS.out]; omega), hexF_front, show j0 + 1 = 16 - i by omega, HC.out]
        rfl
      case measure => simp [RowKit.intOf]; omega
    · obtain rfl : i = 16 := by omega
      have hconv := hblk.tail_str 0 (hexT n) hcs (by rw [hsz]; decide) (by rw [hsz]; simp [hexT, hexF_len])
      rw [show (hexT n).length = 16 from hexF_len 16 n] at hconv
      go_wp2
      go_ret
      exact ⟨rfl, hbel⟩

theorem or16 (m x : Nat) (hm : m < 1152921504606846976) (hx : x < 16) : bits .or .u64 ((m : Int) * 16) (x : Int) = ((16 * m + x : Nat) : Int) := by
  have h := u64_or_nat (16 * m) x (by omega) (by omega)
  rw [← Nat.two_pow_add_eq_or_of_lt (i := 4) (b := x) hx m] at h
  rw [show (2 : Nat) ^ 4 * m + x = 16 * m + x from rfl] at h
  rw [← h]
  congr 1
  omega
theorem hv_nat (c : UInt8) : hv c = if 48 ≤ c.toNat ∧ c.toNat ≤ 57 then c.toNat - 48 else if 97 ≤ c.toNat ∧ c.toNat ≤ 102 then c.toNat - 87 else 16 := rfl

set_option maxRecDepth 100000 in
set_option maxHeartbeats 1000000 in
theorem readhex_ok (l : List UInt8) (w : World) (hl : l.length ≤ maxLen) : Calls Tryz.prog 34 #[strV l] w fun e w' => e = .returned (.tuple #[.int .u64 ((rhex l).1 : Nat), .int .i64 (rhex l).2]) ∧ w' = w := by
  unfold maxLen at hl
  by_cases h16 : l.length = 16
  · have hb : ((l.length : Int) != 16) = false := by simp [h16]
    have hr : rhex l = res 11 (rhF l 0) := by unfold rhex; rw [if_neg (by simp [h16])]
    have HR := Lib.hid hr
    have HL := Lib.hid h16
    clear hr h16
    go_enter Tryz.func34, Tryz.ntmps34
    go_wp2
    go_loop [4, 12] (fun nv iv => ∃ k m, k ≤ 16 ∧ iv = .int .i64 (k : Nat) ∧ nv = .int .u64 (m : Nat) ∧ m < 16 ^ k ∧ rhF l 0 = rhF (l.drop k) m) (fun _ iv => (l.length - RowKit.intOf iv).toNat)
    case atStart => exact ⟨0, 0, by omega, rfl, rfl, by decide, rfl⟩
    case round =>
      obtain ⟨k, m, hk, rfl, rfl, hm, hpf⟩ := hrel
      by_cases hlt : k < 16
      · have hkl : k < l.length := by rw [HL.out]; exact hlt
        have hki : (k : Int) < (l.length : Int) := by omega
        obtain ⟨y, hy⟩ : ∃ y, y = (l[k]).toNat := ⟨_, rfl⟩
        have hyk : ∀ w, (Instr.index 9 (strV l) (.int .i64 (k : Int))).run Tryz.prog w = .ok (.int .u8 (y : Int)) w := fun w => by rw [hy]; exact str_ix hkl w
        obtain ⟨h, hh⟩ : ∃ h, h = hv l[k] := ⟨_, rfl⟩
        have hdr : rhF l 0 = if h < 16 then rhF (l.drop (k + 1)) (16 * m + h) else none := by rw [hpf, List.drop_eq_getElem_cons hkl, rhF_cons, ← hh]
        have hhy : h = if 48 ≤ y ∧ y ≤ 57 then y - 48 else if 97 ≤ y ∧ y ≤ 102 then y - 87 else 16 := by rw [hh, hv_nat, ← hy]
        have hyl : y < 256 := by rw [hy]; exact (l[k]).toNat_lt
        have hm15 : m < 1152921504606846976 := by
          have := Nat.lt_of_lt_of_le hm (Nat.pow_le_pow_right (by omega) (show k ≤ 15 by omega))
          exact Nat.lt_of_lt_of_eq this (by decide)
        have hm16 : m < 18446744073709551616 := by omega
        have HF := Lib.hid hdr
        have HH := Lib.hid hhy
        have HM := Lib.hid hm
        clear hy hh hdr hhy hpf hm
        have hc : (48 ≤ y ∧ y ≤ 57) ∨ (97 ≤ y ∧ y ≤ 102) ∨ (¬ (48 ≤ y ∧ y ≤ 57) ∧ ¬ (97 ≤ y ∧ y ≤ 102)) := by omega
        rcases hc with ⟨c1, c2⟩ | ⟨c1, c2⟩ | ⟨c1, c2⟩
        · have d1 : (48 : Int) ≤ (y : Int) := by omega
          have d2 : (y : Int) ≤ 57 := by omega
          go_wp2
          go_round
          case rel =>
            have hv : h = y - 48 := by rw [HH.out, if_pos ⟨c1, c2⟩]
            have hb : h < 16 := by omega
            refine ⟨k + 1, 16 * m + h, by omega, by go_num, ?_, by have := HM.out; rw [Nat.pow_succ]; omega, by rw [HF.out, if_pos hb]⟩
            rw [show (y : Int) - 48 = (h : Int) by omega, or16 m h hm15 hb]
          case measure => simp [RowKit.intOf]; omega
        · have d1 : (97 : Int) ≤ (y : Int) := by omega
          have d2 : (y : Int) ≤ 102 := by omega
          go_wp2
          go_round
          case rel =>
            have hv : h = y - 87 := by rw [HH.out, if_neg (by omega), if_pos ⟨c1, c2⟩]
            have hb : h < 16 := by omega
            refine ⟨k + 1, 16 * m + h, by omega, by go_num, ?_, by have := HM.out; rw [Nat.pow_succ]; omega, by rw [HF.out, if_pos hb]⟩
            rw [show (y : Int) - 97 + 10 = (h : Int) by omega, or16 m h hm15 hb]
          case measure => simp [RowKit.intOf]; omega
        · have hv : h = 16 := by rw [HH.out, if_neg c1, if_neg c2]
          have hn : rhex l = (0, 11) := by rw [HR.out, HF.out, if_neg (by omega)]; rfl
          have HN := Lib.hid hn
          clear hn hv
          have e1 : (48 : Int) ≤ (y : Int) → ¬ ((y : Int) ≤ 57) := by omega
          by_cases q1 : (48 : Int) ≤ (y : Int)
          · have q2 := e1 q1
            clear e1
            go_wp2
            all_goals
              rw [HN.out]
              go_ret2
              exact ⟨rfl, rfl⟩
          · clear e1
            go_wp2
            all_goals
              rw [HN.out]
              go_ret2
              exact ⟨rfl, rfl⟩
      · obtain rfl : k = 16 := by omega
        have hge : (l.length : Int) ≤ 16 := by have := HL.out; omega
        have hn : rhex l = (m, 0) := by rw [HR.out, hpf, List.drop_of_length_le (by rw [HL.out]; omega)]; rfl
        have HN := Lib.hid hn
        clear hn hpf hm
        go_wp2
        rw [HN.out]
        go_ret2
        exact ⟨rfl, rfl⟩
  · have hb : ((l.length : Int) != 16) = true := by simp; omega
    have hn : rhex l = (0, 11) := by unfold rhex; rw [if_pos h16]
    have HN := Lib.hid hn
    clear hn h16
    go_enter Tryz.func34, Tryz.ntmps34
    go_wp2
    rw [HN.out]
    go_ret2
    exact ⟨rfl, rfl⟩
end Go.Proofs.YtldjgpnbkbmgoaaGreatDoor

namespace Go.Proofs.YtldjgpnbkbmgoaaGreatDoor
open Go.Shelf Go.RowKit Go.Lib
def lays156_ren : Go.Shelf.Ren := ⟨fun | 156 => 104 | 165 => 136 | 166 => 22 | 169 => 25 | 240 => 40 | 241 => 179 | 276 => 65 | 277 => 214 | n => n, fun | 31 => 110 | 9 => 9 | 3 => 3 | 4 => 4 | 0 => 0 | 20 => 20 | 72 => 67 | 76 => 70 | 70 => 65 | 37 => 52 | 75 => 69 | 127 => 92 | 164 => 116 | 5 => 5 | 80 => 73 | n => n, fun | n => n⟩
theorem lays156 : Go.Proofs.Lays.n156 Tryz.prog lays156_ren := {
  mixed := by kernel_rfl
  f156 := Tryz.func104.trans (congrArg some (by kernel_rfl))
  f165 := Tryz.func136.trans (congrArg some (by kernel_rfl))
  f166 := Tryz.func22.trans (congrArg some (by kernel_rfl))
  f169 := Tryz.func25.trans (congrArg some (by kernel_rfl))
  f240 := Tryz.func40.trans (congrArg some (by kernel_rfl))
  f241 := Tryz.func179.trans (congrArg some (by kernel_rfl))
  f276 := Tryz.func65.trans (congrArg some (by kernel_rfl))
  f277 := Tryz.func214.trans (congrArg some (by kernel_rfl))
  t0 := Tryz.underlying0
  a0 := Tryz.isAgg0
  z0 := Tryz.sizeOf0
  v0 := Tryz.zeroValue0
  t3 := Tryz.underlying3
  a3 := Tryz.isAgg3
  z3 := Tryz.sizeOf3
  v3 := Tryz.zeroValue3
  t4 := Tryz.underlying4
  a4 := Tryz.isAgg4
  z4 := Tryz.sizeOf4
  v4 := Tryz.zeroValue4
  t9 := Tryz.underlying9
  a9 := Tryz.isAgg9
  z9 := Tryz.sizeOf9
  v9 := Tryz.zeroValue9
  t20 := Tryz.underlying20
  a20 := Tryz.isAgg20
  z20 := Tryz.sizeOf20
  v20 := Tryz.zeroValue20
  t31 := Tryz.underlying110
  a31 := Tryz.isAgg110
  z31 := Tryz.sizeOf110
  v31 := Tryz.zeroValue110
  t37 := Tryz.underlying52
  a37 := Tryz.isAgg52
  z37 := Tryz.sizeOf52
  v37 := Tryz.zeroValue52
  t70 := Tryz.underlying65
  a70 := Tryz.isAgg65
  z70 := Tryz.sizeOf65
  v70 := Tryz.zeroValue65
  t72 := Tryz.underlying67
  a72 := Tryz.isAgg67
  z72 := Tryz.sizeOf67
  v72 := Tryz.zeroValue67
  t75 := Tryz.underlying69
  a75 := Tryz.isAgg69
  z75 := Tryz.sizeOf69
  v75 := Tryz.zeroValue69
  t76 := Tryz.underlying70
  a76 := Tryz.isAgg70
  z76 := Tryz.sizeOf70
  v76 := Tryz.zeroValue70
  t127 := Tryz.underlying92
  a127 := Tryz.isAgg92
  z127 := Tryz.sizeOf92
  v127 := Tryz.zeroValue92
  t164 := Tryz.underlying116
  a164 := Tryz.isAgg116
  z164 := Tryz.sizeOf116
  v164 := Tryz.zeroValue116 }
def lays146_ren : Go.Shelf.Ren := ⟨fun | 146 => 97 | 221 => 131 | 268 => 176 | 138 => 177 | 143 => 178 | 195 => 211 | 197 => 212 | 218 => 213 | 219 => 55 | 260 => 228 | 217 => 93 | 225 => 94 | 224 => 95 | 267 => 96 | 266 => 129 | 314 => 130 | n => n, fun | 9 => 9 | 31 => 110 | 3 => 3 | 4 => 4 | 0 => 0 | 105 => 310 | 21 => 21 | 5 => 5 | 46 => 105 | 119 => 350 | 139 => 353 | 138 => 352 | 146 => 203 | 51 => 202 | n => n, fun | 1 => 0 | 3 => 1 | 4 => 2 | n => n⟩
theorem lays146 : Go.Proofs.Lays.n146 Tryz.prog lays146_ren := {
  mixed := by kernel_rfl
  f138 := Tryz.func177.trans (congrArg some (by kernel_rfl))
  f143 := Tryz.func178.trans (congrArg some (by kernel_rfl))
  f146 := Tryz.func97.trans (congrArg some (by kernel_rfl))
  f195 := Tryz.func211.trans (congrArg some (by kernel_rfl))
  f197 := Tryz.func212.trans (congrArg some (by kernel_rfl))
  f217 := Tryz.func93.trans (congrArg some (by kernel_rfl))
  f218 := Tryz.func213.trans (congrArg some (by kernel_rfl))
  f219 := Tryz.func55.trans (congrArg some (by kernel_rfl))
  f221 := Tryz.func131.trans (congrArg some (by kernel_rfl))
  f224 := Tryz.func95.trans (congrArg some (by kernel_rfl))
  f225 := Tryz.func94.trans (congrArg some (by kernel_rfl))
  f260 := Tryz.func228.trans (congrArg some (by kernel_rfl))
  f266 := Tryz.func129.trans (congrArg some (by kernel_rfl))
  f267 := Tryz.func96.trans (congrArg some (by kernel_rfl))
  f268 := Tryz.func176.trans (congrArg some (by kernel_rfl))
  f314 := Tryz.func130.trans (congrArg some (by kernel_rfl))
  t0 := Tryz.underlying0
  a0 := Tryz.isAgg0
  z0 := Tryz.sizeOf0
  v0 := Tryz.zeroValue0
  t3 := Tryz.underlying3
  a3 := Tryz.isAgg3
  z3 := Tryz.sizeOf3
  v3 := Tryz.zeroValue3
  t4 := Tryz.underlying4
  a4 := Tryz.isAgg4
  z4 := Tryz.sizeOf4
  v4 := Tryz.zeroValue4
  t5 := Tryz.underlying5
  a5 := Tryz.isAgg5
  z5 := Tryz.sizeOf5
  v5 := Tryz.zeroValue5
  t9 := Tryz.underlying9
  a9 := Tryz.isAgg9
  z9 := Tryz.sizeOf9
  v9 := Tryz.zeroValue9
  t21 := Tryz.underlying21
  a21 := Tryz.isAgg21
  z21 := Tryz.sizeOf21
  v21 := Tryz.zeroValue21
  t31 := Tryz.underlying110
  a31 := Tryz.isAgg110
  z31 := Tryz.sizeOf110
  v31 := Tryz.zeroValue110
  t46 := Tryz.underlying105
  a46 := Tryz.isAgg105
  z46 := Tryz.sizeOf105
  v46 := Tryz.zeroValue105
  t51 := Tryz.underlying202
  a51 := Tryz.isAgg202
  z51 := Tryz.sizeOf202
  v51 := Tryz.zeroValue202
  t105 := Tryz.underlying310
  a105 := Tryz.isAgg310
  z105 := Tryz.sizeOf310
  v105 := Tryz.zeroValue310
  t119 := Tryz.underlying350
  a119 := Tryz.isAgg350
  z119 := Tryz.sizeOf350
  t138 := Tryz.underlying352
  a138 := Tryz.isAgg352
  z138 := Tryz.sizeOf352
  v138 := Tryz.zeroValue352
  t139 := Tryz.underlying353
  a139 := Tryz.isAgg353
  z139 := Tryz.sizeOf353
  v139 := Tryz.zeroValue353
  t146 := Tryz.underlying203
  a146 := Tryz.isAgg203
  z146 := Tryz.sizeOf203
  v146 := Tryz.zeroValue203
  g1 := by kernel_rfl
  g3 := by kernel_rfl
  g4 := by kernel_rfl }
def lays167_ren : Go.Shelf.Ren := ⟨fun | 167 => 134 | 156 => 104 | 165 => 136 | 166 => 22 | 169 => 25 | 240 => 40 | 241 => 179 | 276 => 65 | 277 => 214 | n => n, fun | 31 => 110 | 9 => 9 | 3 => 3 | 4 => 4 | 0 => 0 | 20 => 20 | 72 => 67 | 76 => 70 | 70 => 65 | 37 => 52 | 75 => 69 | 127 => 92 | 164 => 116 | 5 => 5 | 80 => 73 | n => n, fun | n => n⟩
theorem lays167 : Go.Proofs.Lays.n167 Tryz.prog lays167_ren := {
  f167 := Tryz.func134.trans (congrArg some (by kernel_rfl))
  mixed := by kernel_rfl
  f240 := Tryz.func40.trans (congrArg some (by kernel_rfl))
  f276 := Tryz.func65.trans (congrArg some (by kernel_rfl))
  t0 := Tryz.underlying0
  a0 := Tryz.isAgg0
  z0 := Tryz.sizeOf0
  v0 := Tryz.zeroValue0
  t4 := Tryz.underlying4
  a4 := Tryz.isAgg4
  z4 := Tryz.sizeOf4
  v4 := Tryz.zeroValue4
  t5 := Tryz.underlying5
  a5 := Tryz.isAgg5
  z5 := Tryz.sizeOf5
  v5 := Tryz.zeroValue5
  t9 := Tryz.underlying9
  a9 := Tryz.isAgg9
  z9 := Tryz.sizeOf9
  v9 := Tryz.zeroValue9
  t20 := Tryz.underlying20
  a20 := Tryz.isAgg20
  z20 := Tryz.sizeOf20
  v20 := Tryz.zeroValue20
  t37 := Tryz.underlying52
  a37 := Tryz.isAgg52
  z37 := Tryz.sizeOf52
  v37 := Tryz.zeroValue52
  t70 := Tryz.underlying65
  a70 := Tryz.isAgg65
  z70 := Tryz.sizeOf65
  v70 := Tryz.zeroValue65
  t72 := Tryz.underlying67
  a72 := Tryz.isAgg67
  z72 := Tryz.sizeOf67
  v72 := Tryz.zeroValue67
  t75 := Tryz.underlying69
  a75 := Tryz.isAgg69
  z75 := Tryz.sizeOf69
  v75 := Tryz.zeroValue69
  t164 := Tryz.underlying116
  a164 := Tryz.isAgg116
  z164 := Tryz.sizeOf116
  v164 := Tryz.zeroValue116 }
theorem Builder_Extra_156 : Builder.Extra Tryz.prog lays156_ren := {
  sizeBuilder := by kernel_rfl
  liesBuilder := by kernel_rfl
  t5 := Tryz.underlying5
  a5 := Tryz.isAgg5
  z5 := Tryz.sizeOf5
  v5 := Tryz.zeroValue5
  infoByte := by kernel_rfl
  cellsByte := by kernel_rfl
  sizeByte := by kernel_rfl
  neB5 := by decide }
theorem Builder_Extra_167 : Builder.Extra Tryz.prog lays167_ren := {
  sizeBuilder := by kernel_rfl
  liesBuilder := by kernel_rfl
  t5 := Tryz.underlying5
  a5 := Tryz.isAgg5
  z5 := Tryz.sizeOf5
  v5 := Tryz.zeroValue5
  infoByte := by kernel_rfl
  cellsByte := by kernel_rfl
  sizeByte := by kernel_rfl
  neB5 := by decide }
/-- A Builder of the call's own in block b that holds the bytes l. -/
def Bld (w : World) (b : Nat) (l : List UInt8) : Prop := Lib.IsBuilderF 67 5 b b (Lib.byteCells l) w
def BPut (w : World) (b : Nat) (l : List UInt8) (w' : World) : Prop := Bld w' b l ∧ Below b w w'
theorem Bld.lt {w : World} {b : Nat} {l : List UInt8} (h : Bld w b l) : b < w.heap.size := by rcases h with h | h <;> exact h.lt
theorem Bld.below {w w' : World} {b : Nat} {l : List UInt8} (h : Bld w b l) (hb : Below w.heap.size w w') : Bld w' b l := by
  have key : ∀ p, Lib.BuilderAtF 67 5 b b p (Lib.byteCells l) w → Lib.BuilderAtF 67 5 b b p (Lib.byteCells l) w' := fun p hp => by
    have hlt := hp.lt
    obtain ⟨h1, v, h2, h3, h4⟩ := hp
    have hg : w.grownBy w' none := ⟨hb.os, hb.tape, hb.output, hb.size, fun k hk _ => hb.block k hk⟩
    refine ⟨h1, v, (hb.block b hlt).trans h2, h3.kept hg ?_, h4⟩
    cases hv : v.ownBlock with
    | none => exact .inl rfl
    | some k => exact .inr (by simp)
  rcases h with h | h
  · exact .inl (key _ h)
  · exact .inr (key _ h)
theorem Bld.new (w : World) : Bld (w.alloc (.cells #[.pointer none, .slice none 0 0] 67)) w.heap.size [] :=
  .inl ⟨Nat.le_refl _, _, heap_alloc_new w _, World.ownsRowF_nil _ _ _ _, by simp [Value.ownBlock]⟩
theorem wbyte_ok (w : World) (b : Nat) (l : List UInt8) (c : UInt8) (h : Bld w b l) (hl : l.length + 1 ≤ 140737488355328) :
    Calls Tryz.prog 134 #[.pointer (some ⟨b, 0, none⟩), .int .u8 (c.toNat : Int)] w fun e w' => e = .returned .nilIface ∧ BPut w b (l ++ [c]) w' := by
  have hc : Lib.byteCells (l ++ [c]) = Lib.byteCells l ++ [.int .u8 (c.toNat : Int)] := by simp [Lib.byteCells]
  refine (Any.Builder_WriteByte_k lays167 Builder_Extra_167 b b (Lib.byteCells l) (c.toNat : Int) w h (by simpa [Lib.byteCells] using hl) (Nat.le_of_lt h.lt)).mono ?_
  rintro e w' ⟨he, h1, h2, _⟩
  refine ⟨he, ?_, h2⟩
  unfold Bld
  rw [hc]
  exact .inr h1
theorem wstr_ok (w : World) (b : Nat) (l t : List UInt8) (h : Bld w b l) (hl : l.length + t.length ≤ 140737488355328) :
    Calls Tryz.prog 22 #[.pointer (some ⟨b, 0, none⟩), strV t] w fun e w' => e = .returned (.tuple #[.int .i64 t.length, .nilIface]) ∧ BPut w b (l ++ t) w' := by
  have hc : Lib.byteCells (l ++ t) = Lib.byteCells l ++ Lib.strCells ⟨t.toArray⟩ := by
    rw [strCells_by]
    have e : ∀ t : List UInt8, Lib.byteCells t = t.flatMap byC := fun t => by
      induction t with
      | nil => rfl
      | cons a t ih => simp [Lib.byteCells, byC] at ih ⊢; exact ih
    rw [← e t]
    simp [Lib.byteCells]
  refine (Any.Builder_WriteString_k { lays156 with } Builder_Extra_156 b b (Lib.byteCells l) ⟨t.toArray⟩ w h (by simpa [Lib.byteCells] using hl) (Nat.le_of_lt h.lt)).mono ?_
  rintro e w' ⟨he, h1, h2, _⟩
  refine ⟨by rw [he, str_size], ?_, h2⟩
  unfold Bld
  rw [hc]
  exact .inr h1
theorem bstr_ok (w : World) (b : Nat) (l : List UInt8) (h : Bld w b l) :
    Calls Tryz.prog 25 #[.pointer (some ⟨b, 0, none⟩)] w fun e w' => e = .returned (strV l) ∧ BPut w b l w' := by
  refine (Any.Builder_String_any_k { lays156 with } Builder_Extra_156 b b l w h (Nat.le_of_lt h.lt)).mono ?_
  rintro e w' ⟨he, h1, h2, _⟩
  exact ⟨he, h1, h2⟩
end Go.Proofs.YtldjgpnbkbmgoaaGreatDoor

namespace Go.Proofs.YtldjgpnbkbmgoaaGreatDoor
open Go.RowKit

theorem plain_ok (c : UInt8) (w : World) : Calls Tryz.prog 133 #[.int .u8 (c.toNat : Int)] w fun e w' => e = .returned (.bool (plainB c)) ∧ w' = w := by
  have e : ∀ x : Nat, x = c.toNat → plainB c = (decide ((33 : Int) ≤ (x : Int)) && (decide ((x : Int) ≤ 126) && (((x : Int) != 92) && ((x : Int) != 45)))) := by
    rintro x rfl
    unfold plainB
    rw [Bool.eq_iff_iff]
    simp
    omega
  obtain ⟨x, hx⟩ : ∃ x, x = c.toNat := ⟨_, rfl⟩
  rw [e x hx, ← hx]
  clear e hx
  by_cases h1 : (33 : Int) ≤ (x : Int)
  · by_cases h2 : (x : Int) ≤ 126
    · by_cases h3 : x = 92
      · subst h3
        go_enter Tryz.func133, Tryz.ntmps133
        go_wp2
        go_ret
        exact ⟨rfl, rfl⟩
      · have h3' : ((x : Int) != 92) = true := by simp; omega
        clear h3
        go_enter Tryz.func133, Tryz.ntmps133
        go_wp2
        go_ret
        exact ⟨by simp [h1, h2, h3'], rfl⟩
    · go_enter Tryz.func133, Tryz.ntmps133
      go_wp2
      go_ret
      exact ⟨by simp; omega, rfl⟩
  · go_enter Tryz.func133, Tryz.ntmps133
    go_wp2
    go_ret
    exact ⟨by simp; omega, rfl⟩

theorem ba_add (l m : List UInt8) : (ByteArray.mk l.toArray) ++ (ByteArray.mk m.toArray) = ⟨(l ++ m).toArray⟩ := by
  apply ByteArray.ext
  rw [ByteArray.data_append]
  simp
theorem ba_cut (l : List UInt8) (a b : Nat) : (ByteArray.mk l.toArray).extract a b = ⟨((l.take b).drop a).toArray⟩ := by
  have h := Lib.extract_data (ByteArray.mk l.toArray) a b
  apply ByteArray.ext
  apply Array.ext'
  rw [h]
  show (l.drop a).take (b - a) = ((l.take b).drop a).toArray.toList
  rw [List.drop_take]
theorem str_cut (l : List UInt8) (a b : Nat) : Value.string ((ByteArray.mk l.toArray).extract a b) = strV ((l.take b).drop a) := by
  rw [ba_cut]

theorem askhex_ok (c : UInt8) (w : World) : Calls Tryz.prog 135 #[.int .u8 (c.toNat : Int)] w (SPost w [hd (c.toNat / 16), hd (c.toNat % 16)]) := by
  have hc : c.toNat < 256 := c.toNat_lt
  obtain ⟨x, hx⟩ : ∃ x, x = c.toNat := ⟨_, rfl⟩
  rw [← hx] at hc ⊢
  clear hx
  go_enter Tryz.func135, Tryz.ntmps135
  go_wp2_with fail
  refine (hex_ok x w (by omega)).mono ?_
  rintro e w1 ⟨rfl, hw1⟩
  have hl : (hexT x).length = 16 := hexF_len 16 x
  have hb := hexT_byte x hc
  go_wp2
  rw [str_cut, List.take_of_length_le (by omega), hb]
  go_ret
  exact ⟨rfl, hw1⟩

set_option maxRecDepth 100000 in
set_option maxHeartbeats 1000000 in
theorem quoted_ok (l : List UInt8) (w : World) (hl : l.length ≤ 35184372088832) : Calls Tryz.prog 102 #[strV l] w (SPost w (quo l)) := by
  by_cases h0 : l = []
  · subst h0
    go_enter Tryz.func102, Tryz.ntmps102
    go_wp2
    go_ret
    exact ⟨rfl, Below.refl _ _⟩
  · have he : l.isEmpty = false := by simpa using h0
    have hq : quo l = l.flatMap qb := by unfold quo; rw [if_neg h0]
    have HQ := Lib.hid hq
    clear hq h0
    go_enter Tryz.func102, Tryz.ntmps102
    go_wp2
    go_loopw [9] (fun iv wr => ∃ k, k ≤ l.length ∧ iv = .int .i64 (k : Nat) ∧ Bld wr w.heap.size ((l.take k).flatMap qb) ∧ Below w.heap.size w wr) (fun iv _ => (l.length - RowKit.intOf iv).toNat)
    case atStart => exact ⟨0, Nat.zero_le _, rfl, Bld.new w, (Below.refl w.heap.size w).alloc (Nat.le_refl _) _⟩
    case round =>
      obtain ⟨k, hk, rfl, hbld, hbel⟩ := hrel
      have hfl : ((l.take k).flatMap qb).length ≤ 3 * l.length := by
        have e : ∀ m : List UInt8, (m.flatMap qb).length ≤ 3 * m.length := fun m => by
          induction m with
          | nil => simp
          | cons a m ih =>
            have := (qb_len a).2
            simp only [List.flatMap_cons, List.length_append, List.length_cons]
            omega
        have := e (l.take k)
        have := List.length_take_le k l
        omega
      by_cases hlt : k < l.length
      · obtain ⟨c, hc⟩ : ∃ c, c = l[k] := ⟨_, rfl⟩
        have hyk : ∀ w, (Instr.index 9 (strV l) (.int .i64 (k : Int))).run Tryz.prog w = .ok (.int .u8 (c.toNat : Int)) w := fun w => by rw [hc]; exact str_ix hlt w
        have hst : (l.take (k + 1)).flatMap qb = (l.take k).flatMap qb ++ qb c := by rw [List.take_succ_eq_append_getElem hlt, List.flatMap_append, ← hc]; simp
        have HS := Lib.hid hst
        have HB := Lib.hid hbld
        have HW := Lib.hid hbel
        have HC := Lib.hid hc
        have hlti : (k : Int) < (l.length : Int) := by omega
        clear hc hst hbld hbel
        go_wp2_with fail
        refine (plain_ok c wr).mono ?_
        rintro e w' ⟨rfl, hw'⟩
        rw [hw']
        clear hw' w'
        cases hp : plainB c
        · have hqb : qb c = [92, hd (c.toNat / 16), hd (c.toNat % 16)] := by unfold qb; rw [if_neg (by simp [hp])]
          have HQB := Lib.hid hqb
          clear hqb
          go_wp2_with fail
          refine (wbyte_ok wr _ _ 92 HB.out (by omega)).mono ?_
          rintro e w1 ⟨rfl, h1, h2⟩
          have HB1 := Lib.hid h1
          have HW1 := Lib.hid (HW.out.trans h2)
          clear h1 h2
          go_wp2_with fail
          refine (askhex_ok c w1).mono ?_
          rintro e w2 ⟨rfl, h2⟩
          have HB2 := Lib.hid (HB1.out.below h2)
          have HW2 := Lib.hid (HW1.out.trans (h2.mono (Nat.le_of_lt HB1.out.lt)))
          clear h2
          go_wp2_with fail
          refine (wstr_ok w2 _ _ [hd (c.toNat / 16), hd (c.toNat % 16)] HB2.out (by simp only [List.length_append, List.length_cons, List.length_nil]; omega)).mono ?_
          rintro e w3 ⟨rfl, h1, h2⟩
          have HB3 := Lib.hid h1
          have HW3 := Lib.hid (HW2.out.trans h2)
          clear h1 h2
          go_wp2
          go_roundw
          case rel => exact ⟨k + 1, by omega, by go_num, by rw [HS.out, HQB.out]; have := HB3.out; rwa [List.append_assoc] at this, HW3.out⟩
          case measure => simp [RowKit.intOf]; omega
        · have hqb : qb c = [c] := by unfold qb; rw [if_pos hp]
          have HQB := Lib.hid hqb
          clear hqb
          go_wp2_with fail
          refine (wbyte_ok wr _ _ c HB.out (by omega)).mono ?_
          rintro e w1 ⟨rfl, h1, h2⟩
          have HB1 := Lib.hid h1
          have HW1 := Lib.hid (HW.out.trans h2)
          clear h1 h2
          go_wp2
          go_roundw
          case rel => exact ⟨k + 1, by omega, by go_num, by rw [HS.out, HQB.out]; exact HB1.out, HW1.out⟩
          case measure => simp [RowKit.intOf]; omega
      · obtain rfl : k = l.length := by omega
        rw [List.take_length] at hbld
        have HB := Lib.hid hbld
        have HW := Lib.hid hbel
        clear hbld hbel
        go_wp2_with fail
        refine (bstr_ok wr _ _ HB.out).mono ?_
        rintro e w1 ⟨rfl, h1, h2⟩
        have HW1 := Lib.hid (HW.out.trans h2)
        clear h1 h2
        go_wp2
        go_ret
        rw [HQ.out]
        exact ⟨rfl, HW1.out⟩


def QPost (w : World) (r : List UInt8 × Bool) (e : Ending) (w' : World) : Prop := e = .returned (.tuple #[strV r.1, .bool r.2]) ∧ Below w.heap.size w w'

set_option maxRecDepth 100000 in
set_option maxHeartbeats 1000000 in
theorem unquoted_ok (l : List UInt8) (w : World) (hl : l.length ≤ 35184372088832) : Calls Tryz.prog 132 #[strV l] w (QPost w (unq l)) := by
  by_cases h0 : l = [45]
  · subst h0
    go_enter Tryz.func132, Tryz.ntmps132
    go_wp2
    go_ret2
    exact ⟨rfl, Below.refl _ _⟩
  · have hq : unq l = unqR l (unqF l) := by unfold unq; rw [if_neg h0]
    have HQ := Lib.hid hq
    have hb : (l == [45]) = false := by simpa using h0
    clear hq h0
    go_enter Tryz.func132, Tryz.ntmps132
    go_wp2
    go_loopw [5] (fun iv wr => ∃ k acc, k ≤ l.length ∧ iv = .int .i64 (k : Nat) ∧ acc.length ≤ k ∧ unqF l = (unqF (l.drop k)).map (acc ++ ·) ∧ Bld wr w.heap.size acc ∧ Below w.heap.size w wr) (fun iv _ => (l.length - RowKit.intOf iv).toNat)
    case atStart => exact ⟨0, [], Nat.zero_le _, rfl, Nat.le_refl _, by simp, Bld.new w, (Below.refl w.heap.size w).alloc (Nat.le_refl _) _⟩
    case round =>
      obtain ⟨k, acc, hk, rfl, hacc, huq, hbld, hbel⟩ := hrel
      have HB := Lib.hid hbld
      have HW := Lib.hid hbel
      have HU := Lib.hid huq
      clear hbld hbel huq
      by_cases hlt : k < l.length
      · obtain ⟨x, r, hxr⟩ : ∃ x r, l.drop k = x :: r := ⟨_, _, List.drop_eq_getElem_cons hlt⟩
        have hrl : r.length + k + 1 = l.length := by
          have := congrArg List.length hxr
          simp at this
          omega
        have hx : l[k] = x := by
          have := List.drop_eq_getElem_cons hlt
          rw [hxr] at this
          simp only [List.cons.injEq] at this
          exact this.1.symm
        have hyk : ∀ w, (Instr.index 9 (strV l) (.int .i64 (k : Int))).run Tryz.prog w = .ok (.int .u8 (x.toNat : Int)) w := fun w => by rw [← hx]; exact str_ix hlt w
        have hr : l.drop (k + 1) = r := by
          rw [← List.drop_drop, hxr]
          rfl
        have HX := Lib.hid hxr
        have HR := Lib.hid hr
        have hlti : (k : Int) < (l.length : Int) := by omega
        clear hxr hx hr
        by_cases hc : x.toNat = 92
        · have hc' : ((x.toNat : Int) != 92) = false := by simp; omega
          have HC := Lib.hid hc
          clear hc
          by_cases h3 : r.length < 2
          · have h3' : (l.length : Int) - (k : Int) < 3 := by omega
            have hn : unq l = ([], false) := by rw [HQ.out, HU.out, HX.out, unqF_short x r HC.out h3]; rfl
            have HN := Lib.hid hn
            clear hn
            go_wp2
            go_ret2
            rw [HN.out]
            exact ⟨rfl, HW.out⟩
          · have h3' : (3 : Int) ≤ (l.length : Int) - (k : Int) := by omega
            have h3k : (k : Int) + 3 ≤ (l.length : Int) := by omega
            obtain ⟨a, b, r, rfl⟩ : ∃ a b r', r = a :: b :: r' := by
              match r, h3 with
              | a :: b :: r', _ => exact ⟨a, b, r', rfl⟩
              | [_], h => exact absurd (by simp) h
              | [], h => exact absurd (by simp) h
            have hz : (ByteArray.mk #[48, 48, 48, 48, 48, 48, 48, 48, 48, 48, 48, 48, 48, 48]) ++ (ByteArray.mk l.toArray).extract (k + 1) (k + 3) = ⟨([48, 48, 48, 48, 48, 48, 48, 48, 48, 48, 48, 48, 48, 48] ++ [a, b]).toArray⟩ := by
              rw [ba_cut, List.drop_take, HR.out, show k + 3 - (k + 1) = 2 by omega]
              exact ba_add [48, 48, 48, 48, 48, 48, 48, 48, 48, 48, 48, 48, 48, 48] _
            have hlong : r.length + 2 + k + 1 = l.length := hrl
            have hdr3 : l.drop (k + 2 + 1) = r := by
              have := congrArg (List.drop 2) HR.out
              rw [List.drop_drop] at this
              rw [show k + 2 + 1 = k + 1 + 2 by omega, this]
              rfl
            have HZ := Lib.hid hz
            have HD := Lib.hid hdr3
            clear hz h3 hrl hdr3
            go_wp2_with fail
            rw [HZ.out]
            refine (readhex_ok _ wr (by simp [maxLen])).mono ?_
            rintro e w' ⟨rfl, hw'⟩
            rw [hw', rhex_two]
            clear hw' w'
            by_cases hh : hv a < 16 ∧ hv b < 16
            · rw [if_pos hh]
              obtain ⟨y, hy⟩ : ∃ y : UInt8, y = UInt8.ofNat (16 * hv a + hv b) := ⟨_, rfl⟩
              have hyn : y.toNat = 16 * hv a + hv b := by rw [hy, UInt8.toNat_ofNat']; omega
              have hu : unqF l = (unqF r).map ((acc ++ [y]) ++ ·) := by
                rw [HU.out, HX.out, unqF_slash x a b r HC.out hh, ← hy, Option.map_map]
                congr 1
                funext t
                simp
              rw [← hyn]
              have hy8 : (y.toNat : Int) < 256 := by have := y.toNat_lt; omega
              have HU2 := Lib.hid hu
              clear hu hy hyn HU
              go_wp2_with fail
              refine (wbyte_ok wr _ _ y HB.out (by omega)).mono ?_
              rintro e w1 ⟨rfl, h1, h2⟩
              have HB1 := Lib.hid h1
              have HW1 := Lib.hid (HW.out.trans h2)
              clear h1 h2
              go_wp2
              go_roundw
              case rel => exact ⟨k + 2 + 1, acc ++ [y], by omega, by go_num, by simp; omega, by rw [HD.out]; exact HU2.out, HB1.out, HW1.out⟩
              case measure => simp [RowKit.intOf]; omega
            · rw [if_neg hh]
              have hn : unq l = ([], false) := by rw [HQ.out, HU.out, HX.out, unqF_none x a b r HC.out hh]; rfl
              have HN := Lib.hid hn
              clear hn hh
              go_wp2
              go_ret2
              rw [HN.out]
              exact ⟨rfl, HW.out⟩
        · have hc' : ((x.toNat : Int) != 92) = true := by simp; omega
          have HC := Lib.hid hc
          clear hc
          go_wp2_with fail
          refine (wbyte_ok wr _ _ x HB.out (by omega)).mono ?_
          rintro e w1 ⟨rfl, h1, h2⟩
          have HB1 := Lib.hid h1
          have HW1 := Lib.hid (HW.out.trans h2)
          clear h1 h2
          go_wp2
          go_roundw
          case rel => exact ⟨k + 1, acc ++ [x], by omega, by go_num, by simp; omega, by rw [HU.out, HX.out, unqF_plain x r HC.out, HR.out, Option.map_map]; congr 1; funext t; simp, HB1.out, HW1.out⟩
          case measure => simp [RowKit.intOf]; omega
      · obtain rfl : k = l.length := by omega
        have hn : unq l = (acc, quo acc == l) := by
          rw [HQ.out, HU.out, List.drop_length]
          show unqR l (some (acc ++ [])) = _
          rw [List.append_nil]
          rfl
        have HN := Lib.hid hn
        clear hn
        go_wp2_with fail
        refine (bstr_ok wr _ _ HB.out).mono ?_
        rintro e w1 ⟨rfl, h1, h2⟩
        have HB1 := Lib.hid h1
        have HW1 := Lib.hid (HW.out.trans h2)
        clear h1 h2
        go_wp2_with fail
        refine (bstr_ok w1 _ _ HB1.out).mono ?_
        rintro e w2 ⟨rfl, h1, h2⟩
        have HW2 := Lib.hid (HW1.out.trans h2)
        have hle : w.heap.size ≤ w2.heap.size := by have := h1.lt; omega
        clear h1 h2
        go_wp2_with fail
        refine (quoted_ok acc w2 (by omega)).mono ?_
        rintro e w3 ⟨rfl, h2⟩
        have HW3 := Lib.hid (HW2.out.trans (h2.mono hle))
        clear h2
        go_wp2
        go_ret2
        rw [HN.out]
        exact ⟨rfl, HW3.out⟩
end Go.Proofs.YtldjgpnbkbmgoaaGreatDoor
