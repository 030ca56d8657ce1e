/-
  Answers as values; equality of their structs. Conditions: none.
-/
import Derived.Test.YtbfbcbhnknhgnaaGreatDoorRead
import Derived.Deep.DeepCutAuto
namespace Go.Proofs.YtbfbcbhnknhgnaaGreatDoor
open Go.RowKit

structure Sn where
  id : Int
  level : Int
  x0 : Int
  y0 : Int
  x1 : Int
  y1 : Int
structure Ev where
  user : Int
  op : Int
  status : Int
  tick : Int
structure Ans where
  status : Int
  secret : Nat
  id : Int
  ax : Int
  ay : Int
  label : Int
  x0 : Int
  y0 : Int
  x1 : Int
  y1 : Int
  seen : List Sn
  events : List Ev
def snC (s : Sn) : List Value := [.int .i64 s.id, .int .i64 s.level, .int .i64 s.x0, .int .i64 s.y0, .int .i64 s.x1, .int .i64 s.y1]
def evC (e : Ev) : List Value := [.int .i64 e.user, .int .i64 e.op, .int .i64 e.status, .int .i64 e.tick]
theorem snC_len (s : Sn) : (snC s).length = 6 := rfl
theorem evC_len (e : Ev) : (evC e).length = 4 := rfl
theorem sn_enc : EncOk snC 6 := ⟨snC_len, fun a u hu => by
  simp only [snC, List.mem_cons, List.not_mem_nil, or_false] at hu
  rcases hu with rfl | rfl | rfl | rfl | rfl | rfl <;> rfl⟩
theorem ev_enc : EncOk evC 4 := ⟨evC_len, fun a u hu => by
  simp only [evC, List.mem_cons, List.not_mem_nil, or_false] at hu
  rcases hu with rfl | rfl | rfl | rfl <;> rfl⟩
/-- An answer's cells, its two slices apart. -/
abbrev anC (a : Ans) (sv ev : Value) : Array Value := #[.int .i64 a.status, .int .u64 (a.secret : Nat), .int .i64 a.id, .int .i64 a.ax, .int .i64 a.ay, .int .i64 a.label, .int .i64 a.x0, .int .i64 a.y0, .int .i64 a.x1, .int .i64 a.y1, sv, ev]
abbrev rcV (a b c d : Int) : Value := .agg #[.int .i64 a, .int .i64 b, .int .i64 c, .int .i64 d]
def eq4 (a b c d a' b' c' d' : Int) : Bool := decide (a = a' ∧ b = b' ∧ c = c' ∧ d = d')
def eq6 (a b c d e f a' b' c' d' e' f' : Int) : Bool := decide (a = a' ∧ b = b' ∧ c = c' ∧ d = d' ∧ e = e' ∧ f = f')

set_option maxRecDepth 100000 in
set_option maxHeartbeats 1000000 in
@[go_sem high] theorem eqRect (a b c d a' b' c' d' : Int) (w : World) : (Op.equalIn 10000 24 (.agg #[.int .i64 a, .int .i64 b, .int .i64 c, .int .i64 d]) (.agg #[.int .i64 a', .int .i64 b', .int .i64 c', .int .i64 d'])).run Tryz.prog w = .ok (eq4 a b c d a' b' c' d') w := by
  have hS : Tryz.prog.underlying 24 = some (.struct (Tryz.prog.fieldsOf 24)) := by kernel_rfl
  have hp : Tryz.prog.stoodInHeld 24 = false := by kernel_rfl
  rw [show (10000 : Nat) = 9999 + 1 from rfl, run_equalIn_agg w 9999 24 _ _ hS hp]
  simp only [Program.fieldsOf, Tryz.underlying24]
  go_simp
  unfold eq4
  by_cases h0 : a = a' <;> by_cases h1 : b = b' <;> by_cases h2 : c = c' <;> by_cases h3 : d = d' <;> simp [h0, h1, h2, h3]
@[go_sem] theorem gdRect : Tryz.prog.eqGuardType Tryz.prog.depth 24 = false := by kernel_rfl

set_option maxRecDepth 100000 in
set_option maxHeartbeats 1000000 in
@[go_sem high] theorem eqRec (a b c d a' b' c' d' : Int) (w : World) : (Op.equalIn 10000 67 (.agg #[.int .i64 a, .int .i64 b, .int .i64 c, .int .i64 d]) (.agg #[.int .i64 a', .int .i64 b', .int .i64 c', .int .i64 d'])).run Tryz.prog w = .ok (eq4 a b c d a' b' c' d') w := by
  have hS : Tryz.prog.underlying 67 = some (.struct (Tryz.prog.fieldsOf 67)) := by kernel_rfl
  have hp : Tryz.prog.stoodInHeld 67 = false := by kernel_rfl
  rw [show (10000 : Nat) = 9999 + 1 from rfl, run_equalIn_agg w 9999 67 _ _ hS hp]
  simp only [Program.fieldsOf, Tryz.underlying67]
  go_simp
  unfold eq4
  by_cases h0 : a = a' <;> by_cases h1 : b = b' <;> by_cases h2 : c = c' <;> by_cases h3 : d = d' <;> simp [h0, h1, h2, h3]
@[go_sem] theorem gdRec : Tryz.prog.eqGuardType Tryz.prog.depth 67 = false := by kernel_rfl

set_option maxRecDepth 100000 in
set_option maxHeartbeats 1000000 in
@[go_sem high] theorem eqSn (a b c d e f a' b' c' d' e' f' : Int) (w : World) : (Op.equalIn 10000 64 (.agg #[.int .i64 a, .int .i64 b, .int .i64 c, .int .i64 d, .int .i64 e, .int .i64 f]) (.agg #[.int .i64 a', .int .i64 b', .int .i64 c', .int .i64 d', .int .i64 e', .int .i64 f'])).run Tryz.prog w = .ok (eq6 a b c d e f a' b' c' d' e' f') w := by
  have hS : Tryz.prog.underlying 64 = some (.struct (Tryz.prog.fieldsOf 64)) := by kernel_rfl
  have hp : Tryz.prog.stoodInHeld 64 = false := by kernel_rfl
  rw [show (10000 : Nat) = 9999 + 1 from rfl, run_equalIn_agg w 9999 64 _ _ hS hp]
  simp only [Program.fieldsOf, Tryz.underlying64]
  go_simp
  unfold eq6
  by_cases h0 : a = a' <;> by_cases h1 : b = b' <;> by_cases h2 : c = c' <;> by_cases h3 : d = d' <;> by_cases h4 : e = e' <;> by_cases h5 : f = f' <;> simp [h0, h1, h2, h3, h4, h5]
@[go_sem] theorem gdSn : Tryz.prog.eqGuardType Tryz.prog.depth 64 = false := by kernel_rfl

set_option maxRecDepth 100000 in
set_option maxHeartbeats 1000000 in
@[go_sem high] theorem eqEv (a b c d a' b' c' d' : Int) (w : World) : (Op.equalIn 10000 126 (.agg #[.int .i64 a, .int .i64 b, .int .i64 c, .int .i64 d]) (.agg #[.int .i64 a', .int .i64 b', .int .i64 c', .int .i64 d'])).run Tryz.prog w = .ok (eq4 a b c d a' b' c' d') w := by
  have hS : Tryz.prog.underlying 126 = some (.struct (Tryz.prog.fieldsOf 126)) := by kernel_rfl
  have hp : Tryz.prog.stoodInHeld 126 = false := by kernel_rfl
  rw [show (10000 : Nat) = 9999 + 1 from rfl, run_equalIn_agg w 9999 126 _ _ hS hp]
  simp only [Program.fieldsOf, Tryz.underlying126]
  go_simp
  unfold eq4
  by_cases h0 : a = a' <;> by_cases h1 : b = b' <;> by_cases h2 : c = c' <;> by_cases h3 : d = d' <;> simp [h0, h1, h2, h3]
@[go_sem] theorem gdEv : Tryz.prog.eqGuardType Tryz.prog.depth 126 = false := by kernel_rfl
end Go.Proofs.YtbfbcbhnknhgnaaGreatDoor
