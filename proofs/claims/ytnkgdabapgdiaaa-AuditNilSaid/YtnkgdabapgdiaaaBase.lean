/-
  Events and rows of events, and what the references of layer 17 answer: contracts of Same, Page, Own. Conditions: none.
-/
import Derived.Test.YtnkgdabapgdiaaaRows
import Derived.Test.YtnkgdabapgdiaaaLib
import Derived.WalkKit
import Derived.WalkSpells
import Derived.WalkLawsBesides
import Derived.Deep.QuietTactic
import Derived.BigQuiet
import Derived.Lib.Hide
namespace Go.Proofs.Ytnkgdabapgdiaaa
open Go.RowKit

structure Ev where
  user : Int
  op : Int
  status : Int
  tick : Int
  deriving DecidableEq

abbrev evA (e : Ev) : Array Value := #[.int .i64 e.user, .int .i64 e.op, .int .i64 e.status, .int .i64 e.tick]
abbrev evV (e : Ev) : Value := .agg #[.int .i64 e.user, .int .i64 e.op, .int .i64 e.status, .int .i64 e.tick]
def evC (e : Ev) : List Value := [.int .i64 e.user, .int .i64 e.op, .int .i64 e.status, .int .i64 e.tick]
theorem evC_len (e : Ev) : (evC e).length = 4 := rfl
theorem Lay.ev {w : World} {b off : Nat} {e : Ev} (h : Lay w b off (evC e)) :
    w.cell? ⟨b, off, none⟩ = some (.int .i64 e.user) ∧ w.cell? ⟨b, off + 1, none⟩ = some (.int .i64 e.op) ∧ w.cell? ⟨b, off + 2, none⟩ = some (.int .i64 e.status) ∧ w.cell? ⟨b, off + 3, none⟩ = some (.int .i64 e.tick) :=
  ⟨h 0 _ rfl, h 1 _ rfl, h 2 _ rfl, h 3 _ rfl⟩

def evEq (a b : Ev) : Bool := decide (a = b)
theorem evEq_iff (a b : Ev) : evEq a b = true ↔ a = b := by simp [evEq]
theorem evEq_not (a b : Ev) : evEq a b = false ↔ ¬ a = b := by simp [evEq]
theorem evEq_all (a b : Ev) : (a.user == b.user && a.op == b.op && a.status == b.status && a.tick == b.tick) = evEq a b := by
  cases a; cases b; rw [Bool.eq_iff_iff]; simp [evEq, and_assoc]
@[go_sem high] theorem eq33 (x y : Ev) (w : World) : (Op.equalIn 10000 33 (.agg #[.int .i64 x.user, .int .i64 x.op, .int .i64 x.status, .int .i64 x.tick]) (.agg #[.int .i64 y.user, .int .i64 y.op, .int .i64 y.status, .int .i64 y.tick])).run Try.prog w = .ok (evEq x y) w := by
  have u3 := Try.underlying3
  have a3 := Try.isAgg3
  have z3 := Try.sizeOf3
  have hS : Try.prog.underlying 33 = some (.struct (Try.prog.fieldsOf 33)) := by kernel_rfl
  have hp : Try.prog.stoodInHeld 33 = false := by kernel_rfl
  rw [show (10000 : Nat) = 9999 + 1 from rfl, run_equalIn_agg w 9999 33 _ _ hS hp, ← evEq_all]
  simp only [Program.fieldsOf, Try.underlying33]
  go_simp
  by_cases h1 : x.user = y.user <;> by_cases h2 : x.op = y.op <;> by_cases h3 : x.status = y.status <;> by_cases h4 : x.tick = y.tick <;> simp [h1, h2, h3, h4]
@[go_sem] theorem gd33 : Try.prog.eqGuardType Try.prog.depth 33 = false := by kernel_rfl

theorem take_eq_of_len {α : Type} {l m : List α} (h : l.length = m.length) (e : l.take l.length = m.take l.length) : l = m := by
  rw [List.take_length, h, List.take_length] at e
  exact e
theorem take_step {α : Type} {l m : List α} {k : Nat} (h1 : k < l.length) (h2 : k < m.length) (e : l.take k = m.take k) : l.take (k + 1) = m.take (k + 1) ↔ l[k] = m[k] := by
  rw [List.take_succ_eq_append_getElem h1, List.take_succ_eq_append_getElem h2, e]
  simp only [List.take_succ_eq_append_getElem h2, List.append_cancel_left_eq, List.cons.injEq]; simp
theorem ret_bool {a b : Bool} (h : a = b) : Ending.returned (.bool a) = .returned (.bool b) := by rw [h]

set_option maxHeartbeats 400000 in
theorem same_ok (l m : List Ev) (s t : Value) (w : World) (B : Nat) (hs : Sl evC w B s l) (ht : Sl evC w B t m) :
    Calls Try.prog 11 #[s, t] w fun e w' => e = .returned (.bool (decide (l = m))) ∧ ∃ n, w' = w.drewN n := by
  obtain ⟨A, ca, rfl, h1, h2, h3⟩ := hs
  obtain ⟨A', ca', rfl, h1', h2', h3'⟩ := ht
  unfold maxLen at h2 h2'
  by_cases hlen : l.length = m.length
  · have hL : ((l.length : Int) != (m.length : Int)) = false := by simp [hlen]
    have H := Lib.hid hlen
    clear hlen
    go_enter Try.func11, Try.ntmps11
    go_wp2
    go_loopw [5] (fun i wr => ∃ k : Nat, k ≤ l.length ∧ i = .int .i64 k ∧ l.take k = m.take k ∧ ∃ n, wr = w.drewN n) (fun i _ => (l.length - intOf i).toNat)
    case atStart => exact ⟨0, Nat.zero_le _, rfl, by simp, 0, rfl⟩
    case round =>
      obtain ⟨k, hk, rfl, htk, n0, rfl⟩ := hrel
      by_cases hlt : k < l.length
      · obtain ⟨b, off, rfl, _, hl⟩ := h3 (by omega)
        have hkm : k < m.length := by rw [← H.out]; exact hlt
        obtain ⟨b', off', rfl, _, hm⟩ := h3' (by omega)
        obtain ⟨x0, x1, x2, x3⟩ := (hl.elem evC_len k hlt).ev
        obtain ⟨y0, y1, y2, y3⟩ := (hm.elem evC_len k hkm).ev
        have hst := Lib.hid (take_step hlt hkm htk)
        clear hl hm h3 h3' htk
        go_wp2
        cases he : evEq l[k] m[k]
        · go_quiet (fail)
          go_wp2
          go_ret
          exact ⟨ret_bool (by rw [eq_comm, decide_eq_false_iff_not]; intro hlm; exact (evEq_not _ _).1 he (by simp only [hlm])), _, by rw [World.drewN_drewN]⟩
        · go_quiet (fail)
          go_wp2
          go_roundw
          case rel => exact ⟨k + 1, by omega, by go_num, hst.out.2 ((evEq_iff _ _).1 he), _, rfl⟩
          case measure => simp [intOf]; omega
      · obtain rfl : k = l.length := by omega
        have hX := Lib.hid (take_eq_of_len H.out htk)
        clear htk
        go_wp2
        go_ret
        exact ⟨ret_bool (by rw [eq_comm, decide_eq_true_eq]; exact hX.out), _, rfl⟩
  · have hL : ((l.length : Int) != (m.length : Int)) = true := by simp; omega
    go_enter Try.func11, Try.ntmps11
    go_wp2
    go_ret
    exact ⟨ret_bool (by rw [eq_comm, decide_eq_false_iff_not]; intro hlm; exact hlen (by rw [hlm])), 0, rfl⟩
end Go.Proofs.Ytnkgdabapgdiaaa
