/-
  The reference's Needs and numbers. Conditions: as each states.
-/
import Derived.Test.YtbfbcbhnknhgnaaDoorRefA
namespace Go.Proofs.YtbfbcbhnknhgnaaDoor
open Go.RowKit Go.Lib

theorem in_enc : EncOk inC 1 := ⟨inC_len, fun a u hu => by
  simp only [inC, List.mem_cons, List.not_mem_nil, or_false] at hu
  subst hu
  rfl⟩
theorem Lay.inn {w : World} {b off : Nat} {x : Nat} (h : Lay w b off (inC x)) : w.cell? ⟨b, off, none⟩ = some (.int .i64 (x : Int)) := h 0 _ rfl
def sumL (l : List Nat) : Nat := l.foldl (· + ·) 0
theorem sumL_snoc (l : List Nat) (x : Nat) : sumL (l ++ [x]) = sumL l + x := by unfold sumL; rw [List.foldl_append]; rfl
theorem foldl_add (l : List Nat) (a : Nat) : l.foldl (· + ·) a = a + sumL l := by
  induction l generalizing a with
  | nil => rfl
  | cons x l ih =>
    unfold sumL
    rw [List.foldl_cons, List.foldl_cons, ih, ih (0 + x)]
    omega
theorem sumL_append (l m : List Nat) : sumL (l ++ m) = sumL l + sumL m := by unfold sumL; rw [List.foldl_append, foldl_add]; rfl
theorem sumL_take_le (l : List Nat) (k : Nat) : sumL (l.take k) ≤ sumL l := by
  have h := sumL_append (l.take k) (l.drop k)
  rw [List.take_append_drop] at h
  omega
theorem widths_sum {op : Int} (h : isOp op = true) : sumL (widths op) = fieldsN op := by
  rcases isOp_cases h with rfl | rfl | rfl | rfl | rfl | rfl | rfl | rfl | rfl | rfl | rfl | rfl | rfl | rfl | rfl | rfl | rfl | rfl | rfl <;> rfl
theorem ite_P {P : List Nat → Prop} {c : Prop} [Decidable c] {a b : List Nat} (h1 : P a) (h2 : P b) : P (if c then a else b) := by
  split
  · exact h1
  · exact h2
theorem widths_all {op : Int} : (fun l : List Nat => l.all (fun x => decide (1 ≤ x ∧ x ≤ 8)) = true) (widths op) := by
  unfold widths
  repeat' refine ite_P (P := fun l : List Nat => l.all (fun x => decide (1 ≤ x ∧ x ≤ 8)) = true) ?_ ?_
  all_goals decide
theorem widths_le {op : Int} : ∀ x ∈ widths op, 1 ≤ x ∧ x ≤ 8 := by
  intro x hx
  simpa using List.all_eq_true.1 widths_all x hx
theorem sumL_le {l : List Nat} (h : ∀ x ∈ l, 1 ≤ x ∧ x ≤ 8) : sumL l ≤ 8 * l.length ∧ l.length ≤ sumL l := by
  induction l with
  | nil => exact ⟨Nat.le_refl _, Nat.le_refl _⟩
  | cons x l ih =>
    have h1 := h x (List.mem_cons_self ..)
    have h2 := ih fun y hy => h y (List.mem_cons_of_mem _ hy)
    have e : sumL (x :: l) = x + sumL l := by
      show List.foldl (· + ·) (0 + x) l = _
      rw [foldl_add]
      omega
    rw [e, List.length_cons]
    omega

theorem run_slice_both {P : Program} {t e : TypeId} {size : Nat} (hu : P.underlying t = some (.slice e)) (hs : ∀ w, (sizeOf e).run P w = .ok size w) (w : World) (A : Option Addr) (n c i j : Nat) (k k' : IntKind) (hi : i ≤ j) (hj : j ≤ c) :
    (Instr.slice t (.slice A n c) (some (.int k (i : Int))) (some (.int k' (j : Int))) none).run P w = .ok (.slice (cutA A c i size) (j - i) (c - i)) w := by
  have h1 : (0 : Int) ≤ (j : Int) ∧ (j : Int) ≤ (c : Int) := by omega
  have h2 : (0 : Int) ≤ (i : Int) ∧ (i : Int) ≤ (j : Int) := by omega
  simp [Instr.slice, run_underlying hu, Instr.sliceBounds, Instr.sliceBound, asIntOf, h1, h2, hs, cutA, go_sem]
  rw [if_pos hj, if_pos hi]
theorem Sl.mid {α : Type} {enc : α → List Value} {k : Nat} {w : World} {B : Nat} {l : List α} {A : Option Addr} {c i j : Nat} (C : EncOk enc k) (h : Sl enc w B (.slice A l.length c) l) (hi : i ≤ j) (hj : j ≤ l.length) :
    Sl enc w B (.slice (cutA A c i k) (j - i) (c - i)) ((l.take j).drop i) := by
  have h1 := h.pre C hj
  have hl : (l.take j).length = j := by simp; omega
  have h2 : Sl enc w B (.slice A (l.take j).length c) (l.take j) := by rw [hl]; exact h1
  have h3 := h2.cut C (n := i) (by rw [hl]; exact hi)
  rw [hl] at h3
  exact h3

/-- The numbers of bytes, so wide each. -/
def cutN : List UInt8 → List Nat → List Nat
  | _, [] => []
  | l, x :: ws => beNat (l.take x) :: cutN (l.drop x) ws
theorem cutN_snoc : ∀ (ws : List Nat) (l : List UInt8) (x : Nat), cutN l (ws ++ [x]) = cutN l ws ++ [beNat ((l.drop (sumL ws)).take x)]
  | [], l, x => rfl
  | y :: ws, l, x => by
    have e : sumL (y :: ws) = y + sumL ws := by
      show List.foldl (· + ·) (0 + y) ws = _
      rw [foldl_add]
      omega
    rw [List.cons_append, cutN, cutN, cutN_snoc ws, e, List.drop_drop, List.cons_append]
theorem cutN_len : ∀ (ws : List Nat) (l : List UInt8), (cutN l ws).length = ws.length
  | [], _ => rfl
  | _ :: ws, l => by rw [cutN, List.length_cons, List.length_cons, cutN_len ws]
theorem drop_take_eq {α : Type} (l : List α) (i x : Nat) : (l.take (i + x)).drop i = (l.drop i).take x := by
  rw [List.drop_take]
  congr 1
  omega
end Go.Proofs.YtbfbcbhnknhgnaaDoor
