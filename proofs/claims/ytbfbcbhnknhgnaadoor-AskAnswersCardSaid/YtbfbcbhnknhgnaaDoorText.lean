/-
  The program's num.Text, Hex. Conditions: the number is a uint64.
-/
import Derived.Test.YtbfbcbhnknhgnaaDoorWords
import Derived.Test.YtbfbcbhnknhgnaaDoorLong
namespace Go.Proofs.YtbfbcbhnknhgnaaDoor
open Go.RowKit Go.Lib

def SPost (w : World) (l : List UInt8) (e : Ending) (w' : World) : Prop := e = .returned (strV l) ∧ Below w.heap.size w w'

theorem drop_set {l : List Value} {a : Nat} {u : Value} (h : a < l.length) : (l.set a u).drop a = u :: l.drop (a + 1) := by
  rw [List.drop_set, if_neg (by omega), Nat.sub_self, List.drop_eq_getElem_cons h]
  rfl
/-- A tail of an array of bytes, as a text. -/
theorem Blk.tail_str {w : World} {g : Nat} {t : TypeId} {cs : Array Value} (h : Blk w g t cs) (a : Nat) (l : List UInt8) (hl : cs.toList.drop a = l.flatMap byC) (h63 : cs.size ≤ maxLen) (hs : a + l.length = cs.size) :
    (convert 87 9 (.slice (some ⟨g, a, none⟩) l.length l.length)).run Tryd.prog w = .ok (strV l) w := by
  refine Sl.str (B := w.heap.size) ⟨some ⟨g, a, none⟩, l.length, rfl, Nat.le_refl _, by omega, fun _ => ⟨g, a, rfl, h.lt, ?_⟩⟩
  rw [← hl]
  have := h.lay.drop a
  rwa [Nat.zero_add] at this

set_option maxRecDepth 100000 in
set_option maxHeartbeats 1000000 in
theorem ntext_ok (n : Nat) (w : World) (hn : n < 18446744073709551616) : Calls Tryd.prog 45 #[.int .u64 n] w (SPost w (txt n)) := by
  have H := Lib.hid hn
  clear hn
  go_enter Tryd.func45, Tryd.ntmps45
  go_wp2
  go_loopw [0, 4] (fun nv av wr => ∃ m a0 L cs, a0 < 20 ∧ nv = .int .u64 (m : Nat) ∧ av = .int .i64 ((a0 + 1 : Nat) : Int) ∧ Blk wr w.heap.size 107 cs ∧ cs.size = 20 ∧ cs.toList.drop (a0 + 1) = L.flatMap byC ∧ a0 + 1 + L.length = 20 ∧ txtF a0 m ++ L = txt n ∧ m < 18446744073709551616 ∧ m < 10 ^ (a0 + 1) ∧ Below w.heap.size w wr) (fun _ av _ => (intOf av).toNat)
  case atStart => exact ⟨n, 19, [], _, by omega, rfl, rfl, Blk.new w _ _, rfl, rfl, rfl, by simp [txt], H.out, Nat.lt_trans H.out (by decide), (Below.refl w.heap.size w).alloc (Nat.le_refl _) _⟩
  case round =>
    obtain ⟨m, a0, L, cs, ha, rfl, rfl, hblk, hsz, hcs, hL, htx, hm, hp, hbel⟩ := hrel
    have q1 : (0 : Int) ≤ (m : Int) % 10 := by omega
    have q2 : (m : Int) % 10 ≤ 9 := by omega
    obtain ⟨u0, hu0⟩ : ∃ u0, cs[a0]? = some u0 := ⟨_, Array.getElem?_eq_getElem (by omega)⟩
    have c0 := hblk.is a0 hu0
    have f0 := hblk.frozen a0
    have hi20 : (a0 : Int) ≤ 20 := by omega
    have hi0 : (0 : Int) ≤ (a0 : Int) := by omega
    have hv : Value.int .u8 (48 + (m : Int) % 10) = Value.int .u8 ((dg m).toNat : Int) := by rw [dg_nat]; congr 1
    have hcs2 : (cs.setIfInBounds a0 (.int .u8 (48 + (m : Int) % 10))).toList.drop a0 = (dg m :: L).flatMap byC := by
      rw [Array.toList_setIfInBounds, drop_set (by simpa [hsz] using ha), hcs, hv]
      rfl
    have hblk2 := hblk.put a0 (.int .u8 (48 + (m : Int) % 10))
    have hconv := hblk2.tail_str a0 (dg m :: L) hcs2 (by rw [Array.size_setIfInBounds, hsz]; decide) (by rw [Array.size_setIfInBounds, hsz, List.length_cons]; omega)
    rw [show (dg m :: L).length = 20 - a0 by rw [List.length_cons]; omega] at hconv
    have HW := Lib.hid (hbel.setCell (p := ⟨w.heap.size, a0, none⟩) (Nat.le_refl _) (.int .u8 (48 + (m : Int) % 10)))
    have HB := Lib.hid hblk2
    have HC := Lib.hid hcs2
    have HS := Lib.hid hsz
    have HL := Lib.hid hL
    have HT := Lib.hid htx
    have HP := Lib.hid hp
    clear hblk2 hcs2 hsz hL htx hblk hcs hbel hu0 hv hp
    by_cases h10 : m < 10
    · have hz : ((m : Int) / 10 == 0) = true := by simp; omega
      have hfin : dg m :: L = txt n := by
        rw [← HT.out]
        cases a0 with
        | zero => rfl
        | succ k => rw [txtF, if_pos h10]; rfl
      have HF := Lib.hid hfin
      clear hfin
      go_wp2
      go_ret
      rw [HF.out]
      exact ⟨rfl, HW.out⟩
    · have hz : ((m : Int) / 10 == 0) = false := by simp; omega
      clear hconv
      go_wp2
      go_roundw
      case rel =>
        have hp := HP.out
        have h1 : 1 ≤ a0 := by
          rcases Nat.eq_zero_or_pos a0 with h | h
          · subst h
            simp at hp
            omega
          · exact h
        obtain ⟨a1, rfl⟩ : ∃ a1, a0 = a1 + 1 := ⟨a0 - 1, by omega⟩
        have hL := HL.out
        refine ⟨m / 10, a1, dg m :: L, _, by omega, by go_num, rfl, HB.out, by rw [Array.size_setIfInBounds]; exact HS.out, HC.out, by rw [List.length_cons]; omega, ?_, by omega, by rw [Nat.pow_succ] at hp; omega, HW.out⟩
        rw [← HT.out, txtF, if_neg h10, List.append_assoc]
        rfl
      case measure => simp [intOf]
end Go.Proofs.YtbfbcbhnknhgnaaDoor
