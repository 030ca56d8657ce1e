/-
  The program's num.Parse, ReadHex, Hex. Conditions: as each states.
-/
import Derived.Test.YtbfbcbhnknhgnaaDoorText
namespace Go.Proofs.YtbfbcbhnknhgnaaDoor
open Go.RowKit Go.Lib

theorem str_ix {t : List UInt8} {i : Nat} (h : i < t.length) (w : World) : (Instr.index 9 (strV t) (.int .i64 (i : Int))).run Tryd.prog w = .ok (.int .u8 ((t[i]).toNat : Int)) w := by
  have hs := str_size t
  rw [run_index_string (P := Tryd.prog) (w := w) 9 _ .i64 _ Tryd.underlying9, dif_pos ⟨by omega, by rw [hs]; omega⟩]
  rfl

set_option maxRecDepth 100000 in
set_option maxHeartbeats 1000000 in
theorem parse_ok (l : List UInt8) (w : World) (hl : l.length ≤ maxLen) : Calls Tryd.prog 67 #[strV l] w fun e w' => e = .returned (.tuple #[.int .u64 ((par l).1 : Nat), .int .i64 (par l).2]) ∧ w' = w := by
  unfold maxLen at hl
  by_cases h0 : l = []
  · subst h0
    go_enter Tryd.func67, Tryd.ntmps67
    go_wp2
    go_ret2
    exact ⟨rfl, rfl⟩
  · have hp : 0 < l.length := by
      rcases Nat.eq_zero_or_pos l.length with h | h
      · exact absurd (List.eq_nil_of_length_eq_zero h) h0
      · exact h
    have he : l.isEmpty = false := by simpa using h0
    obtain ⟨x, hx⟩ : ∃ x, x = (l[0]).toNat := ⟨_, rfl⟩
    have hx0 : ∀ w, (Instr.index 9 (strV l) (.int .i64 0)).run Tryd.prog w = .ok (.int .u8 (x : Int)) w := fun w => by rw [hx]; exact str_ix hp w
    have HX := Lib.hid hx
    clear hx
    have hcond : (l = [] ∨ (1 < l.length ∧ l.head? = some 48)) ↔ (1 < l.length ∧ x = 48) := by
      have e : l.head? = some l[0] := by rw [List.head?_eq_getElem?, List.getElem?_eq_getElem hp]
      rw [e, HX.out]
      simp only [h0, false_or, Option.some.injEq, and_congr_right_iff]
      intro _
      constructor
      · intro h; rw [h]; rfl
      · intro h; exact UInt8.toNat_inj.1 h
    have H0 := Lib.hid h0
    clear h0
    by_cases h1 : 1 < l.length ∧ x = 48
    · have hpar : par l = (0, 10) := by unfold par; rw [if_pos (hcond.2 h1)]
      obtain ⟨h1, h2⟩ := h1
      have h1' : (1 : Int) < (l.length : Int) := by omega
      have hb : ((x : Int) == 48) = true := by simp; omega
      have HP := Lib.hid hpar
      clear hpar hcond h2
      go_enter Tryd.func67, Tryd.ntmps67
      go_wp2
      rw [HP.out]
      go_ret2
      exact ⟨rfl, rfl⟩
    · have hpar : par l = res 10 (parF l 0) := by unfold par; rw [if_neg (fun h => h1 (hcond.1 h))]
      have HP := Lib.hid hpar
      have hor : (1 : Int) < (l.length : Int) ∧ ((x : Int) == 48) = false ∨ (l.length : Int) ≤ 1 := by
        by_cases h2 : 1 < l.length
        · exact .inl ⟨by omega, by simp; omega⟩
        · exact .inr (by omega)
      clear hpar hcond h1
      rcases hor with ⟨h1, h2⟩ | h1
      all_goals
        go_enter Tryd.func67, Tryd.ntmps67
        go_wp2
        go_loop [4, 21] (fun nv iv => ∃ k m, k ≤ l.length ∧ iv = .int .i64 (k : Nat) ∧ nv = .int .u64 (m : Nat) ∧ m < 18446744073709551616 ∧ parF l 0 = parF (l.drop k) m) (fun _ iv => (l.length - intOf iv).toNat)
        case atStart => exact ⟨0, 0, Nat.zero_le _, rfl, rfl, by omega, rfl⟩
        case round =>
          obtain ⟨k, m, hk, rfl, rfl, hm, hpf⟩ := hrel
          by_cases hlt : k < l.length
          · obtain ⟨y, hy⟩ : ∃ y, y = (l[k]).toNat := ⟨_, rfl⟩
            have hyk : ∀ w, (Instr.index 9 (strV l) (.int .i64 (k : Int))).run Tryd.prog w = .ok (.int .u8 (y : Int)) w := fun w => by rw [hy]; exact str_ix hlt w
            have hdr : parF l 0 = if 48 ≤ y ∧ y ≤ 57 ∧ 10 * m + (y - 48) < 18446744073709551616 then parF (l.drop (k + 1)) (10 * m + (y - 48)) else none := by rw [hpf, List.drop_eq_getElem_cons hlt, parF_cons, ← hy]
            have HY := Lib.hid hy
            have HF := Lib.hid hdr
            have hyl : y < 256 := by rw [hy]; exact (l[k]).toNat_lt
            clear hy hdr hpf
            by_cases hc : y < 48
            · have hc' : (y : Int) < 48 := by omega
              have hn : par l = (0, 10) := by rw [HP.out, HF.out, if_neg (by omega)]; rfl
              have HN := Lib.hid hn
              clear hn
              go_wp2
              go_ret2
              rw [HN.out]
              exact ⟨rfl, rfl⟩
            · have hc1 : (48 : Int) ≤ (y : Int) := by omega
              by_cases hc2 : 57 < y
              · have hc' : (57 : Int) < (y : Int) := by omega
                have hn : par l = (0, 10) := by rw [HP.out, HF.out, if_neg (by omega)]; rfl
                have HN := Lib.hid hn
                clear hn
                go_wp2
                go_ret2
                rw [HN.out]
                exact ⟨rfl, rfl⟩
              · have hc3 : (y : Int) ≤ 57 := by omega
                go_wp2
                · have hlt : (18446744073709551615 - ((y : Int) - 48)) / 10 < (m : Int) := by assumption
                  have hn : par l = (0, 10) := by rw [HP.out, HF.out, if_neg (by omega)]; rfl
                  rw [hn]
                  go_ret2
                  exact ⟨rfl, rfl⟩
                · have hle : (m : Int) ≤ (18446744073709551615 - ((y : Int) - 48)) / 10 := by assumption
                  go_round
                  case rel => exact ⟨k + 1, 10 * m + (y - 48), by omega, by go_num, by rw [show ((10 * m + (y - 48) : Nat) : Int) = 10 * (m : Int) + ((y : Int) - 48) by omega], by omega, by rw [HF.out, if_pos (by omega)]⟩
                  case measure => simp [intOf]; omega
          · obtain rfl : k = l.length := by omega
            have hn : par l = (m, 0) := by rw [HP.out, hpf, List.drop_length]; rfl
            have HN := Lib.hid hn
            clear hn hpf
            go_wp2
            go_ret2
            rw [HN.out]
            exact ⟨rfl, rfl⟩
end Go.Proofs.YtbfbcbhnknhgnaaDoor
