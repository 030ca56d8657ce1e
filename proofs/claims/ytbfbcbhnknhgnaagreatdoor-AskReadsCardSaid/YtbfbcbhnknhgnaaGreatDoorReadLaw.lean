/-
  What a request's line is read as: itself. No program here. Conditions: none.
-/
import Derived.Test.YtbfbcbhnknhgnaaGreatDoorRead
namespace Go.Proofs.YtbfbcbhnknhgnaaGreatDoor
open Go.RowKit

theorem rNum_txt (n : Nat) (h : n ≤ 4611686018427387903) (r : List (List UInt8)) (b : Bool) : rNum (txt (u64n (n : Int)) :: r, b) = (n, (r, b)) := by
  have hp := par_txt n (by omega)
  rw [u64n_nat n (by omega)]
  unfold rNum rLong
  simp only [rW, hp]
  rw [if_neg (by omega)]
  simp
theorem rLong_txt (n : Nat) (h : n < 18446744073709551616) (r : List (List UInt8)) (b : Bool) : rLong (txt n :: r, b) = (n, (r, b)) := by
  have hp := par_txt n h
  unfold rLong
  simp only [rW, hp]
  simp
theorem rSec_hex (n : Nat) (h : n < 18446744073709551616) (r : List (List UInt8)) (b : Bool) : rSec (hexT n :: r, b) = (n, (r, b)) := by
  have hp := rhex_hex n h
  unfold rSec
  simp only [rW, hp]
  simp
theorem rTxt_quo (t : List UInt8) (r : List (List UInt8)) (b : Bool) : rTxt (quo t :: r, b) = (t, (r, b)) := by
  have hp := unq_quo t
  unfold rTxt
  simp only [rW, hp]
  simp
theorem nx1_txt {off : Nat} (L : Lens off) (q : Req) (n : Nat) (h : n ≤ 4611686018427387903) (r : List (List UInt8)) (b : Bool) : nx1 L (q, (txt (u64n (n : Int)) :: r, b)) = (L.set q (n : Int), (r, b)) := by
  unfold nx1
  rw [rNum_txt n h]
theorem tx1_txt (q : Req) (n : Nat) (h : n < 18446744073709551616) (r : List (List UInt8)) (b : Bool) : tx1 (q, (txt n :: r, b)) = ({ q with area := n }, (r, b)) := by
  unfold tx1
  rw [rLong_txt n h]
theorem hx1_hex (q : Req) (n : Nat) (h : n < 18446744073709551616) (r : List (List UInt8)) (b : Bool) : hx1 (q, (hexT n :: r, b)) = ({ q with other := n }, (r, b)) := by
  unfold hx1
  rw [rSec_hex n h]
theorem qx1_quo (q : Req) (t : List UInt8) (r : List (List UInt8)) (b : Bool) : qx1 (q, (quo t :: r, b)) = ({ q with txt := t }, (r, b)) := by
  unfold qx1
  rw [rTxt_quo]

theorem cut_sm : ∀ (ws : List Nat) (r : List UInt8) (i x : Nat), (cutN r ws)[i]? = some x → ws.getD i 8 ≤ 4 → x < 4294967296
  | [], r, i, x, h, _ => by simp [cutN] at h
  | y :: ws, r, 0, x, h, h4 => by
    simp only [cutN, List.getElem?_cons_zero, Option.some.injEq] at h
    have h4 : y ≤ 4 := by simpa using h4
    have h1 : (r.take y).length ≤ 4 := by simp; omega
    have := beNat_lt (r.take y).length (r.take y) rfl
    rw [h] at this
    exact Nat.lt_of_lt_of_le this (Nat.le_trans (Nat.pow_le_pow_right (by omega) h1) (by decide))
  | y :: ws, r, i + 1, x, h, h4 => by
    simp only [cutN, List.getElem?_cons_succ] at h
    exact cut_sm ws _ i x h (by simpa using h4)
theorem cut_lt8x : ∀ (ws : List Nat) (r : List UInt8) (i : Nat), (∀ x ∈ ws, 1 ≤ x ∧ x ≤ 8) → (cutN r ws).getD i 0 < 256 ^ 8
  | [], r, i, _ => by simp [cutN]
  | x :: ws, r, 0, h => by
    have hx := (h x (List.mem_cons_self ..)).2
    have h1 : (r.take x).length ≤ 8 := by simp; omega
    have := beNat_lt (r.take x).length (r.take x) rfl
    simp only [cutN, List.getD_cons_zero]
    exact Nat.lt_of_lt_of_le this (Nat.pow_le_pow_right (by omega) h1)
  | x :: ws, r, i + 1, h => by
    simp only [cutN, List.getD_cons_succ]
    exact cut_lt8x ws _ i fun y hy => h y (List.mem_cons_of_mem _ hy)
/-- The bounds of a request's numbers. -/
def Small (ws l : List Nat) : Prop := ∀ i, ws.getD i 8 ≤ 4 → l.getD i 0 ≤ 4611686018427387903
theorem cut_Small (r : List UInt8) (ws : List Nat) : Small ws (cutN r ws) := fun i hi => by
  rw [List.getD_eq_getElem?_getD]
  cases h : (cutN r ws)[i]? with
  | none => simp
  | some x =>
    have := cut_sm ws r i x h hi
    simp
    omega
set_option maxHeartbeats 2000000 in
theorem rF_back (h : Req) (v : List Nat) (t : List UInt8) (hop : isOp h.op = true) (hv : Small (widths h.op) v) (h6 : h.op = 6 → v.getD 0 0 < 18446744073709551616) (h7 : h.op = 7 → v.getD 1 0 < 18446744073709551616) :
    rF (h, (fieldsW (withR h v t), false)) = (withR h v t, ([], false)) := by
  have hh : (withR h v t).op = h.op := (withR_head _ _ _).op
  obtain ⟨op, e⟩ : ∃ op, h.op = op := ⟨_, rfl⟩
  rw [e] at hop hv h6 h7 hh
  rcases isOp_cases hop with rfl | rfl | rfl | rfl | rfl | rfl | rfl | rfl | rfl | rfl | rfl | rfl | rfl | rfl | rfl | rfl | rfl | rfl | rfl
  -- BY genreadlaw.py
  · -- 1
    have b0 := hv 0 (by decide)
    have b1 := hv 1 (by decide)
    have b2 := hv 2 (by decide)
    have b3 := hv 3 (by decide)
    have hw : withR h v t = { h with whom := v.getD 0 0, role := v.getD 1 0, tier := v.getD 2 0, quota := v.getD 3 0 } := by unfold withR; rw [if_pos e]
    have hf : fieldsW (withR h v t) = nsW [((v.getD 0 0 : Nat) : Int), ((v.getD 1 0 : Nat) : Int), ((v.getD 2 0 : Nat) : Int), ((v.getD 3 0 : Nat) : Int)] := by unfold fieldsW; rw [hh, hw]; rfl
    rw [hf]
    unfold rF
    rw [if_pos e, hw]
    simp only [nsW, List.map_cons, List.map_nil, nx1_txt _ _ _ b0, nx1_txt _ _ _ b1, nx1_txt _ _ _ b2, nx1_txt _ _ _ b3, LWhom, LRole, LTier, LQuota]
  · -- 2
    have b0 := hv 0 (by decide)
    have hw : withR h v t = { h with whom := v.getD 0 0 } := by unfold withR; rw [if_neg (show ¬ h.op = 1 by rw [e]; decide), if_pos e]
    have hf : fieldsW (withR h v t) = nsW [((v.getD 0 0 : Nat) : Int)] := by unfold fieldsW; rw [hh, hw]; rfl
    rw [hf]
    unfold rF
    rw [if_neg (show ¬ h.op = 1 by rw [e]; decide), if_pos e, hw]
    simp only [nsW, List.map_cons, List.map_nil, nx1_txt _ _ _ b0, LWhom]
  · -- 3
    have hw : withR h v t = { h with txt := t } := by unfold withR; rw [if_neg (show ¬ h.op = 1 by rw [e]; decide), if_neg (show ¬ h.op = 2 by rw [e]; decide), if_pos e]
    have hf : fieldsW (withR h v t) = [quo t] := by unfold fieldsW; rw [hh, hw]; rfl
    rw [hf]
    unfold rF
    rw [if_neg (show ¬ h.op = 1 by rw [e]; decide), if_neg (show ¬ h.op = 2 by rw [e]; decide), if_pos e, hw, qx1_quo]
  · -- 4
    have b0 := hv 0 (by decide)
    have b1 := hv 1 (by decide)
    have b2 := hv 2 (by decide)
    have hw : withR h v t = { h with whom := v.getD 0 0, rights := v.getD 1 0, til := v.getD 2 0 } := by unfold withR; rw [if_neg (show ¬ h.op = 1 by rw [e]; decide), if_neg (show ¬ h.op = 2 by rw [e]; decide), if_neg (show ¬ h.op = 3 by rw [e]; decide), if_pos e]
    have hf : fieldsW (withR h v t) = nsW [((v.getD 0 0 : Nat) : Int), ((v.getD 1 0 : Nat) : Int), ((v.getD 2 0 : Nat) : Int)] := by unfold fieldsW; rw [hh, hw]; rfl
    rw [hf]
    unfold rF
    rw [if_neg (show ¬ h.op = 1 by rw [e]; decide), if_neg (show ¬ h.op = 2 by rw [e]; decide), if_neg (show ¬ h.op = 3 by rw [e]; decide), if_pos e, hw]
    simp only [nsW, List.map_cons, List.map_nil, nx1_txt _ _ _ b0, nx1_txt _ _ _ b1, nx1_txt _ _ _ b2, LWhom, LRights, LTil]
  · -- 5
    have b0 := hv 0 (by decide)
    have b1 := hv 1 (by decide)
    have b2 := hv 2 (by decide)
    have b3 := hv 3 (by decide)
    have b4 := hv 4 (by decide)
    have b5 := hv 5 (by decide)
    have b6 := hv 6 (by decide)
    have hw : withR h v t = { h with rights := v.getD 0 0, zoom := v.getD 1 0, x0 := v.getD 2 0, y0 := v.getD 3 0, x1 := v.getD 4 0, y1 := v.getD 5 0, til := v.getD 6 0 } := by unfold withR; rw [if_neg (show ¬ h.op = 1 by rw [e]; decide), if_neg (show ¬ h.op = 2 by rw [e]; decide), if_neg (show ¬ h.op = 3 by rw [e]; decide), if_neg (show ¬ h.op = 4 by rw [e]; decide), if_pos e]
    have hf : fieldsW (withR h v t) = nsW [((v.getD 0 0 : Nat) : Int), ((v.getD 1 0 : Nat) : Int), ((v.getD 2 0 : Nat) : Int), ((v.getD 3 0 : Nat) : Int), ((v.getD 4 0 : Nat) : Int), ((v.getD 5 0 : Nat) : Int), ((v.getD 6 0 : Nat) : Int)] := by unfold fieldsW; rw [hh, hw]; rfl
    rw [hf]
    unfold rF
    rw [if_neg (show ¬ h.op = 1 by rw [e]; decide), if_neg (show ¬ h.op = 2 by rw [e]; decide), if_neg (show ¬ h.op = 3 by rw [e]; decide), if_neg (show ¬ h.op = 4 by rw [e]; decide), if_pos e, hw]
    simp only [nsW, List.map_cons, List.map_nil, nx1_txt _ _ _ b0, nx1_txt _ _ _ b1, nx1_txt _ _ _ b2, nx1_txt _ _ _ b3, nx1_txt _ _ _ b4, nx1_txt _ _ _ b5, nx1_txt _ _ _ b6, LRights, LZoom, LX0, LY0, LX1, LY1, LTil]
  · -- 6
    have hw : withR h v t = { h with other := v.getD 0 0 } := by unfold withR; rw [if_neg (show ¬ h.op = 1 by rw [e]; decide), if_neg (show ¬ h.op = 2 by rw [e]; decide), if_neg (show ¬ h.op = 3 by rw [e]; decide), if_neg (show ¬ h.op = 4 by rw [e]; decide), if_neg (show ¬ h.op = 5 by rw [e]; decide), if_pos e]
    have hf : fieldsW (withR h v t) = [hexT (v.getD 0 0)] := by unfold fieldsW; rw [hh, hw]; rfl
    rw [hf]
    unfold rF
    rw [if_neg (show ¬ h.op = 1 by rw [e]; decide), if_neg (show ¬ h.op = 2 by rw [e]; decide), if_neg (show ¬ h.op = 3 by rw [e]; decide), if_neg (show ¬ h.op = 4 by rw [e]; decide), if_neg (show ¬ h.op = 5 by rw [e]; decide), if_pos e, hw, hx1_hex _ _ (h6 rfl)]
  · -- 7
    have b0 := hv 0 (by decide)
    have hw : withR h v t = { h with pk := v.getD 0 0, area := v.getD 1 0 } := by unfold withR; rw [if_neg (show ¬ h.op = 1 by rw [e]; decide), if_neg (show ¬ h.op = 2 by rw [e]; decide), if_neg (show ¬ h.op = 3 by rw [e]; decide), if_neg (show ¬ h.op = 4 by rw [e]; decide), if_neg (show ¬ h.op = 5 by rw [e]; decide), if_neg (show ¬ h.op = 6 by rw [e]; decide), if_pos e]
    have hf : fieldsW (withR h v t) = [txt (u64n ((v.getD 0 0 : Nat) : Int)), txt (v.getD 1 0)] := by unfold fieldsW; rw [hh, hw]; rfl
    rw [hf]
    unfold rF
    rw [if_neg (show ¬ h.op = 1 by rw [e]; decide), if_neg (show ¬ h.op = 2 by rw [e]; decide), if_neg (show ¬ h.op = 3 by rw [e]; decide), if_neg (show ¬ h.op = 4 by rw [e]; decide), if_neg (show ¬ h.op = 5 by rw [e]; decide), if_neg (show ¬ h.op = 6 by rw [e]; decide), if_pos e, hw, nx1_txt _ _ _ b0, tx1_txt _ _ (h7 rfl)]
    rfl
  · -- 8
    have b0 := hv 0 (by decide)
    have b1 := hv 1 (by decide)
    have b2 := hv 2 (by decide)
    have hw : withR h v t = { h with ax := v.getD 0 0, ay := v.getD 1 0, label := v.getD 2 0 } := by unfold withR; rw [if_neg (show ¬ h.op = 1 by rw [e]; decide), if_neg (show ¬ h.op = 2 by rw [e]; decide), if_neg (show ¬ h.op = 3 by rw [e]; decide), if_neg (show ¬ h.op = 4 by rw [e]; decide), if_neg (show ¬ h.op = 5 by rw [e]; decide), if_neg (show ¬ h.op = 6 by rw [e]; decide), if_neg (show ¬ h.op = 7 by rw [e]; decide), if_pos e]
    have hf : fieldsW (withR h v t) = nsW [((v.getD 0 0 : Nat) : Int), ((v.getD 1 0 : Nat) : Int), ((v.getD 2 0 : Nat) : Int)] := by unfold fieldsW; rw [hh, hw]; rfl
    rw [hf]
    unfold rF
    rw [if_neg (show ¬ h.op = 1 by rw [e]; decide), if_neg (show ¬ h.op = 2 by rw [e]; decide), if_neg (show ¬ h.op = 3 by rw [e]; decide), if_neg (show ¬ h.op = 4 by rw [e]; decide), if_neg (show ¬ h.op = 5 by rw [e]; decide), if_neg (show ¬ h.op = 6 by rw [e]; decide), if_neg (show ¬ h.op = 7 by rw [e]; decide), if_pos e, hw]
    simp only [nsW, List.map_cons, List.map_nil, nx1_txt _ _ _ b0, nx1_txt _ _ _ b1, nx1_txt _ _ _ b2, LAx, LAy, LLabel]
  · -- 9
    have hw : withR h v t = h := by unfold withR; rw [if_neg (show ¬ h.op = 1 by rw [e]; decide), if_neg (show ¬ h.op = 2 by rw [e]; decide), if_neg (show ¬ h.op = 3 by rw [e]; decide), if_neg (show ¬ h.op = 4 by rw [e]; decide), if_neg (show ¬ h.op = 5 by rw [e]; decide), if_neg (show ¬ h.op = 6 by rw [e]; decide), if_neg (show ¬ h.op = 7 by rw [e]; decide), if_neg (show ¬ h.op = 8 by rw [e]; decide), if_neg (show ¬ h.op = 13 by rw [e]; decide), if_neg (show ¬ h.op = 14 by rw [e]; decide), if_neg (show ¬ h.op = 15 by rw [e]; decide), if_neg (show ¬ h.op = 16 by rw [e]; decide), if_neg (show ¬ h.op = 17 by rw [e]; decide), if_neg (show ¬ h.op = 19 by rw [e]; decide)]
    have hf : fieldsW (withR h v t) = [] := by unfold fieldsW; rw [hh]; rfl
    rw [hf]
    unfold rF
    rw [if_neg (show ¬ h.op = 1 by rw [e]; decide), if_neg (show ¬ h.op = 2 by rw [e]; decide), if_neg (show ¬ h.op = 3 by rw [e]; decide), if_neg (show ¬ h.op = 4 by rw [e]; decide), if_neg (show ¬ h.op = 5 by rw [e]; decide), if_neg (show ¬ h.op = 6 by rw [e]; decide), if_neg (show ¬ h.op = 7 by rw [e]; decide), if_neg (show ¬ h.op = 8 by rw [e]; decide), if_neg (show ¬ h.op = 13 by rw [e]; decide), if_neg (show ¬ h.op = 14 by rw [e]; decide), if_neg (show ¬ h.op = 15 by rw [e]; decide), if_neg (show ¬ h.op = 16 by rw [e]; decide), if_neg (show ¬ h.op = 17 by rw [e]; decide), if_neg (show ¬ h.op = 19 by rw [e]; decide), hw]
  · -- 10
    have hw : withR h v t = h := by unfold withR; rw [if_neg (show ¬ h.op = 1 by rw [e]; decide), if_neg (show ¬ h.op = 2 by rw [e]; decide), if_neg (show ¬ h.op = 3 by rw [e]; decide), if_neg (show ¬ h.op = 4 by rw [e]; decide), if_neg (show ¬ h.op = 5 by rw [e]; decide), if_neg (show ¬ h.op = 6 by rw [e]; decide), if_neg (show ¬ h.op = 7 by rw [e]; decide), if_neg (show ¬ h.op = 8 by rw [e]; decide), if_neg (show ¬ h.op = 13 by rw [e]; decide), if_neg (show ¬ h.op = 14 by rw [e]; decide), if_neg (show ¬ h.op = 15 by rw [e]; decide), if_neg (show ¬ h.op = 16 by rw [e]; decide), if_neg (show ¬ h.op = 17 by rw [e]; decide), if_neg (show ¬ h.op = 19 by rw [e]; decide)]
    have hf : fieldsW (withR h v t) = [] := by unfold fieldsW; rw [hh]; rfl
    rw [hf]
    unfold rF
    rw [if_neg (show ¬ h.op = 1 by rw [e]; decide), if_neg (show ¬ h.op = 2 by rw [e]; decide), if_neg (show ¬ h.op = 3 by rw [e]; decide), if_neg (show ¬ h.op = 4 by rw [e]; decide), if_neg (show ¬ h.op = 5 by rw [e]; decide), if_neg (show ¬ h.op = 6 by rw [e]; decide), if_neg (show ¬ h.op = 7 by rw [e]; decide), if_neg (show ¬ h.op = 8 by rw [e]; decide), if_neg (show ¬ h.op = 13 by rw [e]; decide), if_neg (show ¬ h.op = 14 by rw [e]; decide), if_neg (show ¬ h.op = 15 by rw [e]; decide), if_neg (show ¬ h.op = 16 by rw [e]; decide), if_neg (show ¬ h.op = 17 by rw [e]; decide), if_neg (show ¬ h.op = 19 by rw [e]; decide), hw]
  · -- 11
    have hw : withR h v t = h := by unfold withR; rw [if_neg (show ¬ h.op = 1 by rw [e]; decide), if_neg (show ¬ h.op = 2 by rw [e]; decide), if_neg (show ¬ h.op = 3 by rw [e]; decide), if_neg (show ¬ h.op = 4 by rw [e]; decide), if_neg (show ¬ h.op = 5 by rw [e]; decide), if_neg (show ¬ h.op = 6 by rw [e]; decide), if_neg (show ¬ h.op = 7 by rw [e]; decide), if_neg (show ¬ h.op = 8 by rw [e]; decide), if_neg (show ¬ h.op = 13 by rw [e]; decide), if_neg (show ¬ h.op = 14 by rw [e]; decide), if_neg (show ¬ h.op = 15 by rw [e]; decide), if_neg (show ¬ h.op = 16 by rw [e]; decide), if_neg (show ¬ h.op = 17 by rw [e]; decide), if_neg (show ¬ h.op = 19 by rw [e]; decide)]
    have hf : fieldsW (withR h v t) = [] := by unfold fieldsW; rw [hh]; rfl
    rw [hf]
    unfold rF
    rw [if_neg (show ¬ h.op = 1 by rw [e]; decide), if_neg (show ¬ h.op = 2 by rw [e]; decide), if_neg (show ¬ h.op = 3 by rw [e]; decide), if_neg (show ¬ h.op = 4 by rw [e]; decide), if_neg (show ¬ h.op = 5 by rw [e]; decide), if_neg (show ¬ h.op = 6 by rw [e]; decide), if_neg (show ¬ h.op = 7 by rw [e]; decide), if_neg (show ¬ h.op = 8 by rw [e]; decide), if_neg (show ¬ h.op = 13 by rw [e]; decide), if_neg (show ¬ h.op = 14 by rw [e]; decide), if_neg (show ¬ h.op = 15 by rw [e]; decide), if_neg (show ¬ h.op = 16 by rw [e]; decide), if_neg (show ¬ h.op = 17 by rw [e]; decide), if_neg (show ¬ h.op = 19 by rw [e]; decide), hw]
  · -- 12
    have hw : withR h v t = h := by unfold withR; rw [if_neg (show ¬ h.op = 1 by rw [e]; decide), if_neg (show ¬ h.op = 2 by rw [e]; decide), if_neg (show ¬ h.op = 3 by rw [e]; decide), if_neg (show ¬ h.op = 4 by rw [e]; decide), if_neg (show ¬ h.op = 5 by rw [e]; decide), if_neg (show ¬ h.op = 6 by rw [e]; decide), if_neg (show ¬ h.op = 7 by rw [e]; decide), if_neg (show ¬ h.op = 8 by rw [e]; decide), if_neg (show ¬ h.op = 13 by rw [e]; decide), if_neg (show ¬ h.op = 14 by rw [e]; decide), if_neg (show ¬ h.op = 15 by rw [e]; decide), if_neg (show ¬ h.op = 16 by rw [e]; decide), if_neg (show ¬ h.op = 17 by rw [e]; decide), if_neg (show ¬ h.op = 19 by rw [e]; decide)]
    have hf : fieldsW (withR h v t) = [] := by unfold fieldsW; rw [hh]; rfl
    rw [hf]
    unfold rF
    rw [if_neg (show ¬ h.op = 1 by rw [e]; decide), if_neg (show ¬ h.op = 2 by rw [e]; decide), if_neg (show ¬ h.op = 3 by rw [e]; decide), if_neg (show ¬ h.op = 4 by rw [e]; decide), if_neg (show ¬ h.op = 5 by rw [e]; decide), if_neg (show ¬ h.op = 6 by rw [e]; decide), if_neg (show ¬ h.op = 7 by rw [e]; decide), if_neg (show ¬ h.op = 8 by rw [e]; decide), if_neg (show ¬ h.op = 13 by rw [e]; decide), if_neg (show ¬ h.op = 14 by rw [e]; decide), if_neg (show ¬ h.op = 15 by rw [e]; decide), if_neg (show ¬ h.op = 16 by rw [e]; decide), if_neg (show ¬ h.op = 17 by rw [e]; decide), if_neg (show ¬ h.op = 19 by rw [e]; decide), hw]
  · -- 13
    have b0 := hv 0 (by decide)
    have b1 := hv 1 (by decide)
    have b2 := hv 2 (by decide)
    have b3 := hv 3 (by decide)
    have hw : withR h v t = { h with x0 := v.getD 0 0, y0 := v.getD 1 0, x1 := v.getD 2 0, y1 := v.getD 3 0 } := by unfold withR; rw [if_neg (show ¬ h.op = 1 by rw [e]; decide), if_neg (show ¬ h.op = 2 by rw [e]; decide), if_neg (show ¬ h.op = 3 by rw [e]; decide), if_neg (show ¬ h.op = 4 by rw [e]; decide), if_neg (show ¬ h.op = 5 by rw [e]; decide), if_neg (show ¬ h.op = 6 by rw [e]; decide), if_neg (show ¬ h.op = 7 by rw [e]; decide), if_neg (show ¬ h.op = 8 by rw [e]; decide), if_pos e]
    have hf : fieldsW (withR h v t) = nsW [((v.getD 0 0 : Nat) : Int), ((v.getD 1 0 : Nat) : Int), ((v.getD 2 0 : Nat) : Int), ((v.getD 3 0 : Nat) : Int)] := by unfold fieldsW; rw [hh, hw]; rfl
    rw [hf]
    unfold rF
    rw [if_neg (show ¬ h.op = 1 by rw [e]; decide), if_neg (show ¬ h.op = 2 by rw [e]; decide), if_neg (show ¬ h.op = 3 by rw [e]; decide), if_neg (show ¬ h.op = 4 by rw [e]; decide), if_neg (show ¬ h.op = 5 by rw [e]; decide), if_neg (show ¬ h.op = 6 by rw [e]; decide), if_neg (show ¬ h.op = 7 by rw [e]; decide), if_neg (show ¬ h.op = 8 by rw [e]; decide), if_pos e, hw]
    simp only [nsW, List.map_cons, List.map_nil, nx1_txt _ _ _ b0, nx1_txt _ _ _ b1, nx1_txt _ _ _ b2, nx1_txt _ _ _ b3, LX0, LY0, LX1, LY1]
  · -- 14
    have b0 := hv 0 (by decide)
    have b1 := hv 1 (by decide)
    have hw : withR h v t = { h with ax := v.getD 0 0, ay := v.getD 1 0 } := by unfold withR; rw [if_neg (show ¬ h.op = 1 by rw [e]; decide), if_neg (show ¬ h.op = 2 by rw [e]; decide), if_neg (show ¬ h.op = 3 by rw [e]; decide), if_neg (show ¬ h.op = 4 by rw [e]; decide), if_neg (show ¬ h.op = 5 by rw [e]; decide), if_neg (show ¬ h.op = 6 by rw [e]; decide), if_neg (show ¬ h.op = 7 by rw [e]; decide), if_neg (show ¬ h.op = 8 by rw [e]; decide), if_neg (show ¬ h.op = 13 by rw [e]; decide), if_pos e]
    have hf : fieldsW (withR h v t) = nsW [((v.getD 0 0 : Nat) : Int), ((v.getD 1 0 : Nat) : Int)] := by unfold fieldsW; rw [hh, hw]; rfl
    rw [hf]
    unfold rF
    rw [if_neg (show ¬ h.op = 1 by rw [e]; decide), if_neg (show ¬ h.op = 2 by rw [e]; decide), if_neg (show ¬ h.op = 3 by rw [e]; decide), if_neg (show ¬ h.op = 4 by rw [e]; decide), if_neg (show ¬ h.op = 5 by rw [e]; decide), if_neg (show ¬ h.op = 6 by rw [e]; decide), if_neg (show ¬ h.op = 7 by rw [e]; decide), if_neg (show ¬ h.op = 8 by rw [e]; decide), if_neg (show ¬ h.op = 13 by rw [e]; decide), if_pos e, hw]
    simp only [nsW, List.map_cons, List.map_nil, nx1_txt _ _ _ b0, nx1_txt _ _ _ b1, LAx, LAy]
  · -- 15
    have b0 := hv 0 (by decide)
    have b1 := hv 1 (by decide)
    have b2 := hv 2 (by decide)
    have b3 := hv 3 (by decide)
    have hw : withR h v t = { h with x0 := v.getD 0 0, y0 := v.getD 1 0, x1 := v.getD 2 0, y1 := v.getD 3 0 } := by unfold withR; rw [if_neg (show ¬ h.op = 1 by rw [e]; decide), if_neg (show ¬ h.op = 2 by rw [e]; decide), if_neg (show ¬ h.op = 3 by rw [e]; decide), if_neg (show ¬ h.op = 4 by rw [e]; decide), if_neg (show ¬ h.op = 5 by rw [e]; decide), if_neg (show ¬ h.op = 6 by rw [e]; decide), if_neg (show ¬ h.op = 7 by rw [e]; decide), if_neg (show ¬ h.op = 8 by rw [e]; decide), if_neg (show ¬ h.op = 13 by rw [e]; decide), if_neg (show ¬ h.op = 14 by rw [e]; decide), if_pos e]
    have hf : fieldsW (withR h v t) = nsW [((v.getD 0 0 : Nat) : Int), ((v.getD 1 0 : Nat) : Int), ((v.getD 2 0 : Nat) : Int), ((v.getD 3 0 : Nat) : Int)] := by unfold fieldsW; rw [hh, hw]; rfl
    rw [hf]
    unfold rF
    rw [if_neg (show ¬ h.op = 1 by rw [e]; decide), if_neg (show ¬ h.op = 2 by rw [e]; decide), if_neg (show ¬ h.op = 3 by rw [e]; decide), if_neg (show ¬ h.op = 4 by rw [e]; decide), if_neg (show ¬ h.op = 5 by rw [e]; decide), if_neg (show ¬ h.op = 6 by rw [e]; decide), if_neg (show ¬ h.op = 7 by rw [e]; decide), if_neg (show ¬ h.op = 8 by rw [e]; decide), if_neg (show ¬ h.op = 13 by rw [e]; decide), if_neg (show ¬ h.op = 14 by rw [e]; decide), if_pos e, hw]
    simp only [nsW, List.map_cons, List.map_nil, nx1_txt _ _ _ b0, nx1_txt _ _ _ b1, nx1_txt _ _ _ b2, nx1_txt _ _ _ b3, LX0, LY0, LX1, LY1]
  · -- 16
    have b0 := hv 0 (by decide)
    have b1 := hv 1 (by decide)
    have hw : withR h v t = { h with ax := v.getD 0 0, ay := v.getD 1 0 } := by unfold withR; rw [if_neg (show ¬ h.op = 1 by rw [e]; decide), if_neg (show ¬ h.op = 2 by rw [e]; decide), if_neg (show ¬ h.op = 3 by rw [e]; decide), if_neg (show ¬ h.op = 4 by rw [e]; decide), if_neg (show ¬ h.op = 5 by rw [e]; decide), if_neg (show ¬ h.op = 6 by rw [e]; decide), if_neg (show ¬ h.op = 7 by rw [e]; decide), if_neg (show ¬ h.op = 8 by rw [e]; decide), if_neg (show ¬ h.op = 13 by rw [e]; decide), if_neg (show ¬ h.op = 14 by rw [e]; decide), if_neg (show ¬ h.op = 15 by rw [e]; decide), if_pos e]
    have hf : fieldsW (withR h v t) = nsW [((v.getD 0 0 : Nat) : Int), ((v.getD 1 0 : Nat) : Int)] := by unfold fieldsW; rw [hh, hw]; rfl
    rw [hf]
    unfold rF
    rw [if_neg (show ¬ h.op = 1 by rw [e]; decide), if_neg (show ¬ h.op = 2 by rw [e]; decide), if_neg (show ¬ h.op = 3 by rw [e]; decide), if_neg (show ¬ h.op = 4 by rw [e]; decide), if_neg (show ¬ h.op = 5 by rw [e]; decide), if_neg (show ¬ h.op = 6 by rw [e]; decide), if_neg (show ¬ h.op = 7 by rw [e]; decide), if_neg (show ¬ h.op = 8 by rw [e]; decide), if_neg (show ¬ h.op = 13 by rw [e]; decide), if_neg (show ¬ h.op = 14 by rw [e]; decide), if_neg (show ¬ h.op = 15 by rw [e]; decide), if_pos e, hw]
    simp only [nsW, List.map_cons, List.map_nil, nx1_txt _ _ _ b0, nx1_txt _ _ _ b1, LAx, LAy]
  · -- 17
    have b0 := hv 0 (by decide)
    have hw : withR h v t = { h with frm := v.getD 0 0 } := by unfold withR; rw [if_neg (show ¬ h.op = 1 by rw [e]; decide), if_neg (show ¬ h.op = 2 by rw [e]; decide), if_neg (show ¬ h.op = 3 by rw [e]; decide), if_neg (show ¬ h.op = 4 by rw [e]; decide), if_neg (show ¬ h.op = 5 by rw [e]; decide), if_neg (show ¬ h.op = 6 by rw [e]; decide), if_neg (show ¬ h.op = 7 by rw [e]; decide), if_neg (show ¬ h.op = 8 by rw [e]; decide), if_neg (show ¬ h.op = 13 by rw [e]; decide), if_neg (show ¬ h.op = 14 by rw [e]; decide), if_neg (show ¬ h.op = 15 by rw [e]; decide), if_neg (show ¬ h.op = 16 by rw [e]; decide), if_pos e]
    have hf : fieldsW (withR h v t) = nsW [((v.getD 0 0 : Nat) : Int)] := by unfold fieldsW; rw [hh, hw]; rfl
    rw [hf]
    unfold rF
    rw [if_neg (show ¬ h.op = 1 by rw [e]; decide), if_neg (show ¬ h.op = 2 by rw [e]; decide), if_neg (show ¬ h.op = 3 by rw [e]; decide), if_neg (show ¬ h.op = 4 by rw [e]; decide), if_neg (show ¬ h.op = 5 by rw [e]; decide), if_neg (show ¬ h.op = 6 by rw [e]; decide), if_neg (show ¬ h.op = 7 by rw [e]; decide), if_neg (show ¬ h.op = 8 by rw [e]; decide), if_neg (show ¬ h.op = 13 by rw [e]; decide), if_neg (show ¬ h.op = 14 by rw [e]; decide), if_neg (show ¬ h.op = 15 by rw [e]; decide), if_neg (show ¬ h.op = 16 by rw [e]; decide), if_pos e, hw]
    simp only [nsW, List.map_cons, List.map_nil, nx1_txt _ _ _ b0, LFrm]
  · -- 18
    have hw : withR h v t = h := by unfold withR; rw [if_neg (show ¬ h.op = 1 by rw [e]; decide), if_neg (show ¬ h.op = 2 by rw [e]; decide), if_neg (show ¬ h.op = 3 by rw [e]; decide), if_neg (show ¬ h.op = 4 by rw [e]; decide), if_neg (show ¬ h.op = 5 by rw [e]; decide), if_neg (show ¬ h.op = 6 by rw [e]; decide), if_neg (show ¬ h.op = 7 by rw [e]; decide), if_neg (show ¬ h.op = 8 by rw [e]; decide), if_neg (show ¬ h.op = 13 by rw [e]; decide), if_neg (show ¬ h.op = 14 by rw [e]; decide), if_neg (show ¬ h.op = 15 by rw [e]; decide), if_neg (show ¬ h.op = 16 by rw [e]; decide), if_neg (show ¬ h.op = 17 by rw [e]; decide), if_neg (show ¬ h.op = 19 by rw [e]; decide)]
    have hf : fieldsW (withR h v t) = [] := by unfold fieldsW; rw [hh]; rfl
    rw [hf]
    unfold rF
    rw [if_neg (show ¬ h.op = 1 by rw [e]; decide), if_neg (show ¬ h.op = 2 by rw [e]; decide), if_neg (show ¬ h.op = 3 by rw [e]; decide), if_neg (show ¬ h.op = 4 by rw [e]; decide), if_neg (show ¬ h.op = 5 by rw [e]; decide), if_neg (show ¬ h.op = 6 by rw [e]; decide), if_neg (show ¬ h.op = 7 by rw [e]; decide), if_neg (show ¬ h.op = 8 by rw [e]; decide), if_neg (show ¬ h.op = 13 by rw [e]; decide), if_neg (show ¬ h.op = 14 by rw [e]; decide), if_neg (show ¬ h.op = 15 by rw [e]; decide), if_neg (show ¬ h.op = 16 by rw [e]; decide), if_neg (show ¬ h.op = 17 by rw [e]; decide), if_neg (show ¬ h.op = 19 by rw [e]; decide), hw]
  · -- 19
    have b0 := hv 0 (by decide)
    have b1 := hv 1 (by decide)
    have hw : withR h v t = { h with whom := v.getD 0 0, quota := v.getD 1 0 } := by unfold withR; rw [if_neg (show ¬ h.op = 1 by rw [e]; decide), if_neg (show ¬ h.op = 2 by rw [e]; decide), if_neg (show ¬ h.op = 3 by rw [e]; decide), if_neg (show ¬ h.op = 4 by rw [e]; decide), if_neg (show ¬ h.op = 5 by rw [e]; decide), if_neg (show ¬ h.op = 6 by rw [e]; decide), if_neg (show ¬ h.op = 7 by rw [e]; decide), if_neg (show ¬ h.op = 8 by rw [e]; decide), if_neg (show ¬ h.op = 13 by rw [e]; decide), if_neg (show ¬ h.op = 14 by rw [e]; decide), if_neg (show ¬ h.op = 15 by rw [e]; decide), if_neg (show ¬ h.op = 16 by rw [e]; decide), if_neg (show ¬ h.op = 17 by rw [e]; decide), if_pos e]
    have hf : fieldsW (withR h v t) = nsW [((v.getD 0 0 : Nat) : Int), ((v.getD 1 0 : Nat) : Int)] := by unfold fieldsW; rw [hh, hw]; rfl
    rw [hf]
    unfold rF
    rw [if_neg (show ¬ h.op = 1 by rw [e]; decide), if_neg (show ¬ h.op = 2 by rw [e]; decide), if_neg (show ¬ h.op = 3 by rw [e]; decide), if_neg (show ¬ h.op = 4 by rw [e]; decide), if_neg (show ¬ h.op = 5 by rw [e]; decide), if_neg (show ¬ h.op = 6 by rw [e]; decide), if_neg (show ¬ h.op = 7 by rw [e]; decide), if_neg (show ¬ h.op = 8 by rw [e]; decide), if_neg (show ¬ h.op = 13 by rw [e]; decide), if_neg (show ¬ h.op = 14 by rw [e]; decide), if_neg (show ¬ h.op = 15 by rw [e]; decide), if_neg (show ¬ h.op = 16 by rw [e]; decide), if_neg (show ¬ h.op = 17 by rw [e]; decide), if_pos e, hw]
    simp only [nsW, List.map_cons, List.map_nil, nx1_txt _ _ _ b0, nx1_txt _ _ _ b1, LWhom, LQuota]
  -- END
theorem no_blank_ns (ns : List Int) : ∀ w ∈ nsW ns, (32 : UInt8) ∉ w := fun w hw => by
  obtain ⟨x, _, rfl⟩ := List.mem_map.1 hw
  exact no_blank_txt _
theorem no_blank_ops : ∀ w ∈ opsL, (32 : UInt8) ∉ w := by decide
theorem no_blank_op (op : Int) : (32 : UInt8) ∉ opW op := by
  unfold opW
  split
  · rw [List.getD_eq_getElem?_getD]
    cases h : opsL[(op - 1).toNat]? with
    | none => simp
    | some w => exact no_blank_ops w (List.mem_of_getElem? h)
  · simp
def NoB (ws : List (List UInt8)) : Prop := ∀ w ∈ ws, (32 : UInt8) ∉ w
theorem NoB.ns (ns : List Int) : NoB (nsW ns) := no_blank_ns ns
theorem NoB.one {w : List UInt8} (h : (32 : UInt8) ∉ w) : NoB [w] := fun x hx => by
  simp only [List.mem_cons, List.not_mem_nil, or_false] at hx
  subst hx
  exact h
theorem NoB.nil : NoB [] := fun x hx => by cases hx
theorem NoB.app {a b : List (List UInt8)} (h : NoB a) (k : NoB b) : NoB (a ++ b) := fun w hw => by
  rcases List.mem_append.1 hw with hw | hw
  · exact h w hw
  · exact k w hw
theorem fields_nob (q : Req) : NoB (fieldsW q) := by
  unfold fieldsW
  refine ite_W (p := NoB) (.ns _) ?_
  refine ite_W (p := NoB) (.ns _) ?_
  refine ite_W (p := NoB) (.one (no_blank_quo _)) ?_
  refine ite_W (p := NoB) (.ns _) ?_
  refine ite_W (p := NoB) (.app (.app (.ns _) (.ns _)) (.ns _)) ?_
  refine ite_W (p := NoB) (.one (no_blank_hex _)) ?_
  refine ite_W (p := NoB) (.app (.ns _) (.one (no_blank_txt _))) ?_
  refine ite_W (p := NoB) (.ns _) ?_
  refine ite_W (p := NoB) (.ns _) ?_
  refine ite_W (p := NoB) (.ns _) ?_
  refine ite_W (p := NoB) (.ns _) ?_
  refine ite_W (p := NoB) (.ns _) ?_
  refine ite_W (p := NoB) (.ns _) ?_
  refine ite_W (p := NoB) (.ns _) ?_
  exact .nil
theorem splitL_line (q : Req) : splitL (lineQ q) = lineW q := by
  unfold lineQ
  refine split_join _ (by simp [lineW, headW, nsW]) ?_
  unfold lineW headW
  exact NoB.app (.app (.app (.app (.ns _) (.one (no_blank_hex _))) (.ns _)) (.one (no_blank_op _))) (fields_nob q)
theorem atF_op {op : Int} (h : isOp op = true) : atF (opW op) 0 opsL + 1 = op := by
  rcases isOp_cases h with rfl | rfl | rfl | rfl | rfl | rfl | rfl | rfl | rfl | rfl | rfl | rfl | rfl | rfl | rfl | rfl | rfl | rfl | rfl <;> decide +kernel
/-- WHAT IS WRITTEN IS READ AS IT WAS. -/
theorem read_line {q : Req} (h : encOk q = true) : readQ (lineQ q) = (q, 0) := by
  obtain ⟨hg, hq⟩ := enc_good h
  have hop := hg.op
  obtain ⟨l, hl⟩ : ∃ l, l = encL q := ⟨_, rfl⟩
  rw [← hl] at hg hq hop
  obtain ⟨hq0, hh0⟩ : ∃ hq0, headR l = hq0 := ⟨_, rfl⟩
  have hs : hq0.secret < 18446744073709551616 := by
    rw [← hh0]
    have h1 : ((l.drop 4).take 8).length ≤ 8 := by simp; omega
    have := beNat_lt ((l.drop 4).take 8).length ((l.drop 4).take 8) rfl
    exact Nat.lt_of_lt_of_le this (Nat.le_trans (Nat.pow_le_pow_right (by omega) h1) (by decide))
  have ht : ∃ n : Nat, hq0.tenant = n ∧ n ≤ 4611686018427387903 := ⟨_, by rw [← hh0]; rfl, by have := byN_lt l 1; omega⟩
  have hu : ∃ n : Nat, hq0.user = n ∧ n ≤ 4611686018427387903 := ⟨256 * byN l 2 + byN l 3, by rw [← hh0]; simp [headR], by have := byN_lt l 2; have := byN_lt l 3; omega⟩
  have hm : ∃ n : Nat, hq0.m = n ∧ n ≤ 4611686018427387903 := ⟨_, by rw [← hh0]; rfl, by have := byN_lt l 12; omega⟩
  have hz : hq0 = { zeroR hq0.op with tenant := hq0.tenant, user := hq0.user, secret := hq0.secret, m := hq0.m } := by rw [← hh0]; rfl
  obtain ⟨tn, ht, bt⟩ := ht
  obtain ⟨un, hu, bu⟩ := hu
  obtain ⟨mn, hm, bm⟩ := hm
  have hqr : q = withR hq0 (cutN (l.drop 13) (widths hq0.op)) (if hq0.op = 3 then l.drop 13 else []) := by rw [← hh0]; exact hq
  rw [hh0] at hop
  have hd := withR_head hq0 (cutN (l.drop 13) (widths hq0.op)) (if hq0.op = 3 then l.drop 13 else [])
  rw [← hqr] at hd
  have hlw : lineW q = txt (u64n (tn : Int)) :: txt (u64n (un : Int)) :: hexT hq0.secret :: txt (u64n (mn : Int)) :: opW hq0.op :: fieldsW q := by
    unfold lineW headW
    rw [hd.tenant, hd.user, hd.secret, hd.m, hd.op, ht, hu, hm]
    rfl
  have hz2 : ({ zeroR hq0.op with tenant := (tn : Int), user := (un : Int), secret := hq0.secret, m := (mn : Int) } : Req) = hq0 := by rw [← ht, ← hu, ← hm]; exact hz.symm
  have hb := rF_back hq0 (cutN (l.drop 13) (widths hq0.op)) (if hq0.op = 3 then l.drop 13 else []) hop (cut_Small _ _)
    (fun e => by rw [e]; exact Nat.lt_of_lt_of_le (cut_lt8x [8] (l.drop 13) 0 (by decide)) (by decide))
    (fun e => by rw [e]; exact Nat.lt_of_lt_of_le (cut_lt8x [2, 8] (l.drop 13) 1 (by decide)) (by decide))
  rw [← hqr] at hb
  have hr : readS (lineQ q) = (q, ([], false)) := by
    unfold readS
    simp only [splitL_line, hlw, rNum_txt _ bt, rNum_txt _ bu, rSec_hex _ hs, rNum_txt _ bm, rW]
    rw [atF_op hop, hz2]
    exact hb
  unfold readQ
  rw [hr]
  exact if_pos ⟨rfl, h, rfl⟩
/-- WHAT IS READ IS WRITTEN AS IT STOOD. -/
theorem read_wrote {l : List UInt8} (h : (readQ l).2 = 0) : encOk (readQ l).1 = true ∧ lineQ (readQ l).1 = l := by
  unfold readQ at h ⊢
  split
  · rename_i hc
    exact ⟨hc.2.1, hc.2.2⟩
  · rename_i hc
    rw [if_neg hc] at h
    cases h
/-- Unlike requests have unlike lines. -/
theorem line_apart {q r : Req} (hq : encOk q = true) (hr : encOk r = true) : lineQ q = lineQ r ↔ q = r := by
  refine ⟨fun e => ?_, fun e => by rw [e]⟩
  have h1 := read_line hq
  rw [e, read_line hr] at h1
  exact (Prod.mk.inj h1).1.symm
end Go.Proofs.YtbfbcbhnknhgnaaGreatDoor
