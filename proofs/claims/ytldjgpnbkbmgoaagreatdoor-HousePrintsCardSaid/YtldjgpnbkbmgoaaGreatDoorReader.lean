/-
  The reader of words: word, long, number, secret, text. Conditions: as each states.
-/
import Derived.Test.YtldjgpnbkbmgoaaGreatDoorLine
import Derived.Test.YtldjgpnbkbmgoaaGreatDoorPut
namespace Go.Proofs.YtldjgpnbkbmgoaaGreatDoor
open Go.RowKit

abbrev RSt := List (List UInt8) × Bool
def rW : RSt → List UInt8 × RSt
  | ([], _) => ([], ([], true))
  | (w :: r, b) => (w, (r, b))
def rLong (s : RSt) : Nat × RSt := ((par (rW s).1).1, ((rW s).2.1, (rW s).2.2 || decide ((par (rW s).1).2 ≠ 0)))
def rNum (s : RSt) : Nat × RSt := if 4611686018427387903 < (rLong s).1 then (0, ((rLong s).2.1, true)) else rLong s
def rSec (s : RSt) : Nat × RSt := ((rhex (rW s).1).1, ((rW s).2.1, (rW s).2.2 || decide ((rhex (rW s).1).2 ≠ 0)))
def rTxt (s : RSt) : List UInt8 × RSt := ((unq (rW s).1).1, ((rW s).2.1, (rW s).2.2 || !(unq (rW s).1).2))

/-- A reader in block g; its words lie below. -/
def Rd (w : World) (g : Nat) (s : RSt) : Prop :=
  ∃ A cap, Blk w g 115 #[.slice A s.1.length cap, .bool s.2] ∧ Sl stC w g (.slice A s.1.length cap) s.1 ∧ ∀ x ∈ s.1, x.length ≤ 35184372088832
def RdPut (w : World) (g : Nat) (v : Value) (s : RSt) (e : Ending) (w' : World) : Prop := e = .returned v ∧ Rd w' g s ∧ w.grownBy w' (some g)
theorem Rd.lt {w : World} {g : Nat} {s : RSt} (h : Rd w g s) : g < w.heap.size := by
  obtain ⟨A, cap, h1, h2⟩ := h
  exact h1.lt
theorem Rd.keep {w w' : World} {g : Nat} {s : RSt} (h : Rd w g s) (hb : Below w.heap.size w w') : Rd w' g s := by
  have hlt := h.lt
  obtain ⟨A, cap, h1, h2, h3⟩ := h
  exact ⟨A, cap, h1.below hb h1.lt, h2.below (hb.mono (Nat.le_of_lt hlt)), h3⟩
theorem grow_set (w : World) (g i : Nat) (u : Value) : w.grownBy (w.setCell ⟨g, i, none⟩ u) (some g) :=
  ⟨rfl, rfl, rfl, by simp [World.setCell], fun k _ hk => Below.heap_setCell _ _ _ _ (fun e => hk (by rw [e]))⟩
theorem grow_trans {a b c : World} {r : Option Nat} (h : a.grownBy b r) (k : b.grownBy c r) : a.grownBy c r := grown_then h k (.inl rfl)
theorem cutSt1 (w : World) (A : Option Addr) (n c : Nat) (k : IntKind) (hj : 1 ≤ n) : (Instr.slice 110 (.slice A n c) (some (.int k 1)) none none).run Tryz.prog w = .ok (.slice (cutA A c 1 1) (n - 1) (c - 1)) w :=
  run_slice_lo Tryz.underlying110 Tryz.sizeOf9 w A n c 1 k hj

set_option maxRecDepth 100000 in
set_option maxHeartbeats 1000000 in
theorem word_ok (w : World) (g : Nat) (s : RSt) (h : Rd w g s) : Calls Tryz.prog 63 #[.pointer (some ⟨g, 0, none⟩)] w (RdPut w g (strV (rW s).1) (rW s).2) := by
  obtain ⟨A, cap, hb, hs, hl⟩ := h
  obtain ⟨ws, bad⟩ := s
  match ws, hb, hs, hl with
  | [], hb, hs, hl =>
    have c0 := (show World.cell? _ ⟨g, 0, none⟩ = some (.slice A 0 cap) from hb.is 0 rfl)
    have c1 := (show World.cell? _ ⟨g, 1, none⟩ = some (.bool bad) from hb.is 1 rfl)
    have f1 := hb.frozen 1
    have HB := Lib.hid (hb.put 1 (.bool true))
    have HS := Lib.hid hs
    clear hb hs hl
    go_enter Tryz.func63, Tryz.ntmps63
    go_wp2
    go_ret
    exact ⟨rfl, ⟨A, cap, HB.out, HS.out.below ((Below.refl g w).setCell (Nat.le_refl _) _), by simp [rW]⟩, grow_set _ _ _ _⟩
  | x :: r, hb, hs, hl =>
    have hS := hs
    obtain ⟨A', cap', e, h1, h2, h3⟩ := hs
    injection e with e1 e2 e3
    subst e1; subst e3
    clear e2
    obtain ⟨b, off, rfl, hbg, hlay⟩ := h3 (by simp)
    have x0 := (show World.cell? _ ⟨b, off, none⟩ = some (strV x) from hlay 0 _ rfl)
    have c0 := (show World.cell? _ ⟨g, 0, none⟩ = some (.slice (some ⟨b, off, none⟩) (r.length + 1) cap) from hb.is 0 rfl)
    have f0 := hb.frozen 0
    have hcut := fun (w : World) => cutSt1 w (some ⟨b, off, none⟩) (r.length + 1) cap .i64 (by omega)
    have HC := Lib.hid (hS.cut st_enc (n := 1) (by simp))
    have HB := Lib.hid (hb.put 0 (.slice (cutA (some ⟨b, off, none⟩) cap 1 1) (r.length + 1 - 1) (cap - 1)))
    have HL := Lib.hid hl
    clear hb hS h3 hlay hl
    go_enter Tryz.func63, Tryz.ntmps63
    go_wp2
    go_ret
    exact ⟨rfl, ⟨_, _, HB.out, HC.out.below ((Below.refl g w).setCell (Nat.le_refl _) _), fun y hy => HL.out y (List.mem_cons_of_mem _ hy)⟩, grow_set _ _ _ _⟩

theorem par_e (l : List UInt8) : (par l).2 = 0 ∨ (par l).2 = 10 := by
  unfold par
  split
  · exact .inr rfl
  · cases parF l 0
    · exact .inr rfl
    · exact .inl rfl
theorem rhex_e (l : List UInt8) : (rhex l).2 = 0 ∨ (rhex l).2 = 11 := by
  unfold rhex
  split
  · exact .inr rfl
  · cases rhF l 0
    · exact .inr rfl
    · exact .inl rfl
theorem rW_len (s : RSt) (n : Nat) (h : ∀ x ∈ s.1, x.length ≤ n) : (rW s).1.length ≤ n ∧ ∀ x ∈ (rW s).2.1, x.length ≤ n := by
  obtain ⟨ws, b⟩ := s
  cases ws with
  | nil => exact ⟨by simp [rW], by simp [rW]⟩
  | cons x r => exact ⟨h x (by simp), fun y hy => h y (List.mem_cons_of_mem _ hy)⟩
theorem Rd.words {w : World} {g : Nat} {s : RSt} (h : Rd w g s) : ∀ x ∈ s.1, x.length ≤ 35184372088832 := let ⟨_, _, _, _, h3⟩ := h; h3
theorem Rd.flag {w : World} {g : Nat} {s : RSt} (h : Rd w g s) (b : Bool) : Rd (w.setCell ⟨g, 1, none⟩ (.bool b)) g (s.1, b) := by
  obtain ⟨A, cap, h1, h2, h3⟩ := h
  exact ⟨A, cap, h1.put 1 _, h2.below ((Below.refl g w).setCell (Nat.le_refl _) _), h3⟩
theorem Rd.cells {w : World} {g : Nat} {s : RSt} (h : Rd w g s) : w.cell? ⟨g, 1, none⟩ = some (.bool s.2) ∧ w.frozen? ⟨g, 1, none⟩ = false := by
  obtain ⟨A, cap, h1, h2, h3⟩ := h
  exact ⟨h1.is 1 rfl, h1.frozen 1⟩

set_option maxRecDepth 100000 in
set_option maxHeartbeats 2000000 in
theorem long_rd (w : World) (g : Nat) (s : RSt) (h : Rd w g s) : Calls Tryz.prog 98 #[.pointer (some ⟨g, 0, none⟩)] w (RdPut w g (.int .u64 ((rLong s).1 : Nat)) (rLong s).2) := by
  have HH := Lib.hid h
  have hlw := (rW_len s _ h.words).1
  clear h
  go_enter Tryz.func98, Tryz.ntmps98
  go_wp2_with fail
  refine (word_ok w g s HH.out).mono ?_
  rintro e w1 ⟨rfl, h1, h2⟩
  obtain ⟨c1, f1⟩ := h1.cells
  have HR := Lib.hid h1
  have HG := Lib.hid h2
  have hrl : rLong s = ((par (rW s).1).1, ((rW s).2.1, (rW s).2.2 || decide ((par (rW s).1).2 ≠ 0))) := rfl
  have HL := Lib.hid hrl
  have he := par_e (rW s).1
  clear h1 h2 hrl
  go_wp2_with fail
  refine (parse_ok (rW s).1 w1 (by unfold maxLen; omega)).mono ?_
  rintro e w' ⟨rfl, hw'⟩
  rw [hw']
  clear hw' w'
  obtain ⟨n, hn⟩ : ∃ n, n = (par (rW s).1).1 := ⟨_, rfl⟩
  obtain ⟨x, hx⟩ : ∃ x, x = (par (rW s).1).2 := ⟨_, rfl⟩
  obtain ⟨bd, hbd⟩ : ∃ bd, bd = (rW s).2.2 := ⟨_, rfl⟩
  rw [← hn, ← hx, ← hbd] at HL
  rw [← hn, ← hx]
  rw [← hx] at he
  rw [← hbd] at c1
  clear hn hx hbd
  rcases he with rfl | rfl <;> cases bd
  all_goals
    go_wp2_with fail
    go_ret
    exact ⟨by rw [HL.out]; rfl, by rw [HL.out]; exact HR.out.flag _, grow_trans HG.out (grow_set _ _ _ _)⟩

set_option maxRecDepth 100000 in
set_option maxHeartbeats 2000000 in
theorem secret_rd (w : World) (g : Nat) (s : RSt) (h : Rd w g s) : Calls Tryz.prog 60 #[.pointer (some ⟨g, 0, none⟩)] w (RdPut w g (.int .u64 ((rSec s).1 : Nat)) (rSec s).2) := by
  have HH := Lib.hid h
  have hlw := (rW_len s _ h.words).1
  clear h
  go_enter Tryz.func60, Tryz.ntmps60
  go_wp2_with fail
  refine (word_ok w g s HH.out).mono ?_
  rintro e w1 ⟨rfl, h1, h2⟩
  obtain ⟨c1, f1⟩ := h1.cells
  have HR := Lib.hid h1
  have HG := Lib.hid h2
  have hrl : rSec s = ((rhex (rW s).1).1, ((rW s).2.1, (rW s).2.2 || decide ((rhex (rW s).1).2 ≠ 0))) := rfl
  have HL := Lib.hid hrl
  have he := rhex_e (rW s).1
  clear h1 h2 hrl
  go_wp2_with fail
  refine (readhex_ok (rW s).1 w1 (by unfold maxLen; omega)).mono ?_
  rintro e w' ⟨rfl, hw'⟩
  rw [hw']
  clear hw' w'
  obtain ⟨n, hn⟩ : ∃ n, n = (rhex (rW s).1).1 := ⟨_, rfl⟩
  obtain ⟨x, hx⟩ : ∃ x, x = (rhex (rW s).1).2 := ⟨_, rfl⟩
  obtain ⟨bd, hbd⟩ : ∃ bd, bd = (rW s).2.2 := ⟨_, rfl⟩
  rw [← hn, ← hx, ← hbd] at HL
  rw [← hn, ← hx]
  rw [← hx] at he
  rw [← hbd] at c1
  clear hn hx hbd
  rcases he with rfl | rfl <;> cases bd
  all_goals
    go_wp2_with fail
    go_ret
    exact ⟨by rw [HL.out]; rfl, by rw [HL.out]; exact HR.out.flag _, grow_trans HG.out (grow_set _ _ _ _)⟩

set_option maxRecDepth 100000 in
set_option maxHeartbeats 2000000 in
theorem text_rd (w : World) (g : Nat) (s : RSt) (h : Rd w g s) : Calls Tryz.prog 100 #[.pointer (some ⟨g, 0, none⟩)] w (RdPut w g (strV (rTxt s).1) (rTxt s).2) := by
  have HH := Lib.hid h
  have hlw := (rW_len s _ h.words).1
  clear h
  go_enter Tryz.func100, Tryz.ntmps100
  go_wp2_with fail
  refine (word_ok w g s HH.out).mono ?_
  rintro e w1 ⟨rfl, h1, h2⟩
  have HR := Lib.hid h1
  have HG := Lib.hid h2
  have hrl : rTxt s = ((unq (rW s).1).1, ((rW s).2.1, (rW s).2.2 || !(unq (rW s).1).2)) := rfl
  have HL := Lib.hid hrl
  clear h1 h2 hrl
  go_wp2_with fail
  refine (unquoted_ok (rW s).1 w1 hlw).mono ?_
  rintro e w2 ⟨rfl, h2⟩
  have HR2 := Lib.hid (HR.out.keep h2)
  have HG2 := Lib.hid (grow_trans HG.out (grown_of_below h2 _))
  obtain ⟨c1, f1⟩ := HR2.out.cells
  clear h2
  obtain ⟨t, ht⟩ : ∃ t, t = (unq (rW s).1).1 := ⟨_, rfl⟩
  obtain ⟨x, hx⟩ : ∃ x, x = (unq (rW s).1).2 := ⟨_, rfl⟩
  obtain ⟨bd, hbd⟩ : ∃ bd, bd = (rW s).2.2 := ⟨_, rfl⟩
  rw [← ht, ← hx, ← hbd] at HL
  rw [← ht, ← hx]
  rw [← hbd] at c1
  clear ht hx hbd
  cases x <;> cases bd
  all_goals
    go_wp2_with fail
    go_ret
    exact ⟨by rw [HL.out]; rfl, by rw [HL.out]; exact HR2.out.flag _, grow_trans HG2.out (grow_set _ _ _ _)⟩

set_option maxRecDepth 100000 in
set_option maxHeartbeats 2000000 in
theorem number_rd (w : World) (g : Nat) (s : RSt) (h : Rd w g s) : Calls Tryz.prog 59 #[.pointer (some ⟨g, 0, none⟩)] w (RdPut w g (.int .i64 ((rNum s).1 : Nat)) (rNum s).2) := by
  have HH := Lib.hid h
  clear h
  have hn : (rLong s).1 < 18446744073709551616 := par_lt _
  have hrl : rNum s = if 4611686018427387903 < (rLong s).1 then (0, ((rLong s).2.1, true)) else rLong s := rfl
  have HL := Lib.hid hrl
  clear hrl
  go_enter Tryz.func59, Tryz.ntmps59
  go_wp2_with fail
  refine (long_rd w g s HH.out).mono ?_
  rintro e w1 ⟨rfl, h1, h2⟩
  obtain ⟨c1, f1⟩ := h1.cells
  have HR := Lib.hid h1
  have HG := Lib.hid h2
  clear h1 h2
  obtain ⟨p, hp⟩ : ∃ p, p = rLong s := ⟨_, rfl⟩
  rw [← hp] at hn HL HR c1
  rw [← hp]
  clear hp
  obtain ⟨n, s1⟩ := p
  by_cases hlt : 4611686018427387903 < n
  · have hi : (4611686018427387903 : Int) < (n : Int) := by omega
    have hv : rNum s = (0, (s1.1, true)) := by rw [HL.out, if_pos hlt]
    have HV := Lib.hid hv
    clear hv hlt hn
    go_wp2_with fail
    go_ret
    exact ⟨by rw [HV.out]; rfl, by rw [HV.out]; exact HR.out.flag _, grow_trans HG.out (grow_set _ _ _ _)⟩
  · have hi : (n : Int) ≤ 4611686018427387903 := by omega
    have hv : rNum s = (n, s1) := by rw [HL.out, if_neg hlt]
    have HV := Lib.hid hv
    clear hv hlt hn
    go_wp2_with fail
    go_ret
    exact ⟨by rw [HV.out]; rfl, by rw [HV.out]; exact HR.out, HG.out⟩
end Go.Proofs.YtldjgpnbkbmgoaaGreatDoor
