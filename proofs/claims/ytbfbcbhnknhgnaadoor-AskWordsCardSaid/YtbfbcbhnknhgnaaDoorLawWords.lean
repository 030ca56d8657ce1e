/-
  The law AskWords: each operation and each status has its word. Conditions: none.
-/
import Derived.Test.YtbfbcbhnknhgnaaDoorKnownA
import Derived.Test.YtbfbcbhnknhgnaaDoorArgs
namespace Go.Proofs.YtbfbcbhnknhgnaaDoor
open Go.RowKit

def ropsL : List (List UInt8) := [] :: opsL
theorem rops_ok (w : World) : Calls Tryd.prog 13 #[] w (TabPost w ropsL) := by
  go_enter Tryd.func13, Tryd.ntmps13
  go_wp2
  go_ret
  exact ⟨rfl, rfl⟩
theorem rsts_ok (w : World) : Calls Tryd.prog 14 #[] w (TabPost w stsL) := by
  go_enter Tryd.func14, Tryd.ntmps14
  go_wp2
  go_ret
  exact ⟨rfl, rfl⟩

theorem opW_at {m : Nat} (h1 : 1 ≤ m) (h : m < ropsL.length) : opW (m : Int) = ropsL[m] := by
  have h19 : m < 20 := h
  unfold opW
  rw [if_pos (by omega)]
  obtain ⟨k, rfl⟩ : ∃ k, m = k + 1 := ⟨m - 1, by omega⟩
  have hk : k < opsL.length := by show k < 19; omega
  rw [show (((k + 1 : Nat) : Int) - 1).toNat = k by omega, List.getD_eq_getElem?_getD, List.getElem?_eq_getElem hk]
  rfl
theorem stW_at {m : Nat} (h : m < stsL.length) : stW (m : Int) = stsL[m] := by
  have h13 : m < 13 := h
  unfold stW
  rw [if_pos (by omega), show ((m : Nat) : Int).toNat = m by omega, List.getD_eq_getElem?_getD, List.getElem?_eq_getElem h]
  rfl

set_option maxRecDepth 100000 in
set_option maxHeartbeats 4000000 in
theorem law_words (op st : Int) (w : World) : Calls Tryd.prog 4 #[.int .i64 op, .int .i64 st] w (Holds w) := by
  go_enter Tryd.func4, Tryd.ntmps4
  go_wp2_with fail
  refine (Op_ok op w).mono ?_
  rintro e w1 ⟨rfl, hb1⟩
  have HW1 := Lib.hid hb1
  clear hb1
  go_wp2_with fail
  refine (Status_ok st w1).mono ?_
  rintro e w2 ⟨rfl, hb2⟩
  have HW2 := Lib.hid (HW1.out.trans (hb2.mono HW1.out.size))
  clear hb2
  by_cases ho : 1 ≤ op ∧ op ≤ 19
  · obtain ⟨m, hm⟩ : ∃ m : Nat, op = (m : Int) := ⟨op.toNat, by omega⟩
    subst hm
    have hml : m < ropsL.length := by show m < 20; omega
    obtain ⟨x, hx⟩ : ∃ x, x = ropsL[m] := ⟨_, rfl⟩
    have he : opW (m : Int) = x := by rw [opW_at (by omega) hml, hx]
    have hc := fun w : World => words_cell w ropsL m hml
    rw [← hx] at hc
    rw [he]
    have k1 : ¬ ((m : Int) < 1) := by omega
    have k2 : ¬ ((19 : Int) < m) := by omega
    have k3 : (m : Int) < 20 := by omega
    clear ho he hx
    go_wp2_with fail
    refine (rops_ok _).mono ?_
    rintro e w3 ⟨rfl, hw3⟩
    have HWS := Lib.hid (show Below w.heap.size w w3 by rw [hw3]; exact HW2.out.alloc HW2.out.size _)
    have hc3 : w3.cell? ⟨w2.heap.size, m, none⟩ = some (strV x) := by rw [hw3]; exact hc w2
    clear hw3 hc
    by_cases hs : 0 ≤ st ∧ st ≤ 12
    · obtain ⟨n, hn⟩ : ∃ n : Nat, st = (n : Int) := ⟨st.toNat, by omega⟩
      subst hn
      have hnl : n < stsL.length := by show n < 13; omega
      obtain ⟨y, hy⟩ : ∃ y, y = stsL[n] := ⟨_, rfl⟩
      have he2 : stW (n : Int) = y := by rw [stW_at hnl, hy]
      have hd := fun w : World => words_cell w stsL n hnl
      rw [← hy] at hd
      rw [he2]
      have g1 : ¬ ((n : Int) < 0) := by omega
      have g2 : ¬ ((12 : Int) < n) := by omega
      have g3 : (n : Int) < 13 := by omega
      clear hs he2 hy
      go_wp2_with fail
      refine (rsts_ok _).mono ?_
      rintro e w5 ⟨rfl, hw5⟩
      have HW5 := Lib.hid (show Below w.heap.size w w5 by rw [hw5]; exact HWS.out.alloc HWS.out.size _)
      rw [hw5]
      rw [hw5] at HW5
      clear hw5
      go_wp2_with fail
      refine (aknown_ok _).mono ?_
      rintro e w6 ⟨rfl, hb6⟩
      have HW6 := Lib.hid (HW5.out.trans (hb6.mono HW5.out.size))
      clear hb6
      go_wp2_with fail
      go_ret
      exact ⟨rfl, HW6.out⟩
    · have he2 : stW st = [] := by unfold stW; rw [if_neg hs]
      rw [he2]
      clear he2
      by_cases g1 : st < 0
      · clear hs
        go_wp2_with fail
        refine (aknown_ok _).mono ?_
        rintro e w6 ⟨rfl, hb6⟩
        have HW6 := Lib.hid (HWS.out.trans (hb6.mono HWS.out.size))
        clear hb6
        go_wp2_with fail
        go_ret
        exact ⟨rfl, HW6.out⟩
      · have g2 : 12 < st := by omega
        clear hs
        go_wp2_with fail
        refine (aknown_ok _).mono ?_
        rintro e w6 ⟨rfl, hb6⟩
        have HW6 := Lib.hid (HWS.out.trans (hb6.mono HWS.out.size))
        clear hb6
        go_wp2_with fail
        go_ret
        exact ⟨rfl, HW6.out⟩
  · have he : opW op = [] := by unfold opW; rw [if_neg ho]
    rw [he]
    have HWS := Lib.hid HW2.out
    clear he
    by_cases k1 : op < 1
    · clear ho
      by_cases hs : 0 ≤ st ∧ st ≤ 12
      · obtain ⟨n, hn⟩ : ∃ n : Nat, st = (n : Int) := ⟨st.toNat, by omega⟩
        subst hn
        have hnl : n < stsL.length := by show n < 13; omega
        obtain ⟨y, hy⟩ : ∃ y, y = stsL[n] := ⟨_, rfl⟩
        have he2 : stW (n : Int) = y := by rw [stW_at hnl, hy]
        have hd := fun w : World => words_cell w stsL n hnl
        rw [← hy] at hd
        rw [he2]
        have g1 : ¬ ((n : Int) < 0) := by omega
        have g2 : ¬ ((12 : Int) < n) := by omega
        have g3 : (n : Int) < 13 := by omega
        clear hs he2 hy
        go_wp2_with fail
        refine (rsts_ok _).mono ?_
        rintro e w5 ⟨rfl, hw5⟩
        have HW5 := Lib.hid (show Below w.heap.size w w5 by rw [hw5]; exact HWS.out.alloc HWS.out.size _)
        rw [hw5]
        rw [hw5] at HW5
        clear hw5
        go_wp2_with fail
        refine (aknown_ok _).mono ?_
        rintro e w6 ⟨rfl, hb6⟩
        have HW6 := Lib.hid (HW5.out.trans (hb6.mono HW5.out.size))
        clear hb6
        go_wp2_with fail
        go_ret
        exact ⟨rfl, HW6.out⟩
      · have he2 : stW st = [] := by unfold stW; rw [if_neg hs]
        rw [he2]
        clear he2
        by_cases g1 : st < 0
        · clear hs
          go_wp2_with fail
          refine (aknown_ok _).mono ?_
          rintro e w6 ⟨rfl, hb6⟩
          have HW6 := Lib.hid (HWS.out.trans (hb6.mono HWS.out.size))
          clear hb6
          go_wp2_with fail
          go_ret
          exact ⟨rfl, HW6.out⟩
        · have g2 : 12 < st := by omega
          clear hs
          go_wp2_with fail
          refine (aknown_ok _).mono ?_
          rintro e w6 ⟨rfl, hb6⟩
          have HW6 := Lib.hid (HWS.out.trans (hb6.mono HWS.out.size))
          clear hb6
          go_wp2_with fail
          go_ret
          exact ⟨rfl, HW6.out⟩
    · have k2 : 19 < op := by omega
      clear ho
      by_cases hs : 0 ≤ st ∧ st ≤ 12
      · obtain ⟨n, hn⟩ : ∃ n : Nat, st = (n : Int) := ⟨st.toNat, by omega⟩
        subst hn
        have hnl : n < stsL.length := by show n < 13; omega
        obtain ⟨y, hy⟩ : ∃ y, y = stsL[n] := ⟨_, rfl⟩
        have he2 : stW (n : Int) = y := by rw [stW_at hnl, hy]
        have hd := fun w : World => words_cell w stsL n hnl
        rw [← hy] at hd
        rw [he2]
        have g1 : ¬ ((n : Int) < 0) := by omega
        have g2 : ¬ ((12 : Int) < n) := by omega
        have g3 : (n : Int) < 13 := by omega
        clear hs he2 hy
        go_wp2_with fail
        refine (rsts_ok _).mono ?_
        rintro e w5 ⟨rfl, hw5⟩
        have HW5 := Lib.hid (show Below w.heap.size w w5 by rw [hw5]; exact HWS.out.alloc HWS.out.size _)
        rw [hw5]
        rw [hw5] at HW5
        clear hw5
        go_wp2_with fail
        refine (aknown_ok _).mono ?_
        rintro e w6 ⟨rfl, hb6⟩
        have HW6 := Lib.hid (HW5.out.trans (hb6.mono HW5.out.size))
        clear hb6
        go_wp2_with fail
        go_ret
        exact ⟨rfl, HW6.out⟩
      · have he2 : stW st = [] := by unfold stW; rw [if_neg hs]
        rw [he2]
        clear he2
        by_cases g1 : st < 0
        · clear hs
          go_wp2_with fail
          refine (aknown_ok _).mono ?_
          rintro e w6 ⟨rfl, hb6⟩
          have HW6 := Lib.hid (HWS.out.trans (hb6.mono HWS.out.size))
          clear hb6
          go_wp2_with fail
          go_ret
          exact ⟨rfl, HW6.out⟩
        · have g2 : 12 < st := by omega
          clear hs
          go_wp2_with fail
          refine (aknown_ok _).mono ?_
          rintro e w6 ⟨rfl, hb6⟩
          have HW6 := Lib.hid (HWS.out.trans (hb6.mono HWS.out.size))
          clear hb6
          go_wp2_with fail
          go_ret
          exact ⟨rfl, HW6.out⟩
end Go.Proofs.YtbfbcbhnknhgnaaDoor
