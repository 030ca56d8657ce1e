/-
  WireBack holds: for any request and any bytes: the law returns true, and its arguments read as they did. Conditions: none.
-/
import Derived.Test.YtmgpfkoomlgcoaaGreatLawNeeds
import Derived.Test.YtmgpfkoomlgcoaaGreatLawDec
namespace Go.Proofs.YtmgpfkoomlgcoaaGreat
open Go.RowKit Go.ChangeShapes Go.WideShapes Go.Lib
attribute [local go_sem ↓] load_req stop_req

theorem RQ.stored {w wx : World} {q : Req} (h : RQ w wx q) (d : Req) : RQ w ((wx.alloc (.cells zeroC 49)).setRow wx.heap.size (rqC d)) q :=
  ⟨(h.b0.alloc _).farRow (Nat.ne_of_lt h.b0.lt) _, below_setRow (h.bel.alloc h.bel.size _) h.bel.size _⟩
theorem cut_lt8 : ∀ (ws : List Nat) (r : List UInt8) (i : Nat), (∀ x ∈ ws, 1 ≤ x ∧ x ≤ 8) → (cutN r ws).getD i 0 < 256 ^ 8
  | [], r, i, _ => by simp [cutN]
  | x :: ws, r, 0, h => by
    have hx := (h x (List.mem_cons_self ..)).2
    have h1 : (r.take x).length ≤ 8 := by simp; omega
    have := beNat_lt (r.take x).length (r.take x) rfl
    simp only [cutN, List.getD_cons_zero]
    exact Nat.lt_of_lt_of_le this (Nat.pow_le_pow_right (by omega) h1)
  | x :: ws, r, i + 1, h => by
    simp only [cutN, List.getD_cons_succ]
    exact cut_lt8 ws _ i fun y hy => h y (List.mem_cons_of_mem _ hy)
theorem withR_ok {q : Req} {l : List Nat} {t : List UInt8} (h : q.ok) (hl : ∀ i, l.getD i 0 < 256 ^ 8) : (withR q l t).ok := by
  unfold withR
  repeat' refine ite_R (p := Req.ok) ?_ ?_
  all_goals exact ⟨h.1, by first | exact h.2.1 | exact hl _, by first | exact h.2.2 | exact hl _⟩
theorem withR_txt {q : Req} {l : List Nat} {t : List UInt8} (h : q.txt.length ≤ 512) (ht : t.length ≤ 512) : (withR q l t).txt.length ≤ 512 := by
  unfold withR
  repeat' refine ite_R (p := fun z => z.txt.length ≤ 512) ?_ ?_
  all_goals first | exact h | exact ht
theorem good_fits {l : List UInt8} (h : Good l) : (bodyQ l).fits := by
  constructor
  · refine withR_ok ⟨?_, (by show (0 : Nat) < 256 ^ 8; decide), (by show (0 : Nat) < 256 ^ 8; decide)⟩ fun i => cut_lt8 _ _ i (@widths_le _)
    have h1 : ((l.drop 4).take 8).length ≤ 8 := by simp; omega
    have := beNat_lt ((l.drop 4).take 8).length ((l.drop 4).take 8) rfl
    exact Nat.lt_of_lt_of_le this (Nat.pow_le_pow_right (by omega) h1)
  · have ht : (if (headR l).op = 3 then l.drop 13 else []).length ≤ 512 := by
      split
      · rw [List.length_drop]; exact h.top
      · simp
    have := withR_txt (q := headR l) (l := cutN (l.drop 13) (widths (headR l).op)) (by simp [headR, zeroR]) ht
    have h2 : (bodyQ l).txt.length ≤ 512 := this
    omega
/-- What is refused is of zeros. -/
theorem rdec_two (l : List UInt8) : (∃ n : Int, n ≠ 0 ∧ rdec l = (zeroR 0, n)) ∨ rdec l = (bodyQ l, 0) := by
  have hb : (withR (headR l) (cutN (l.drop 13) (widths (headR l).op)) (if (headR l).op = 3 then l.drop 13 else [])) = bodyQ l := rfl
  unfold rdec rdec2
  rw [hb]
  by_cases h1 : l.length < 13
  · exact .inl ⟨50, by decide, if_pos h1⟩
  rw [if_neg h1]
  by_cases h2 : isOp (headR l).op = false
  · exact .inl ⟨51, by decide, if_pos h2⟩
  rw [if_neg h2]
  by_cases h3 : 64 < (headR l).m
  · exact .inl ⟨33, by decide, if_pos h3⟩
  rw [if_neg h3]
  by_cases h4 : (l.drop 13).length < fieldsN (headR l).op
  · exact .inl ⟨50, by decide, if_pos h4⟩
  rw [if_neg h4]
  by_cases h5 : ((headR l).op ≠ 3 ∧ fieldsN (headR l).op < (l.drop 13).length) ∨ 512 < (l.drop 13).length
  · exact .inl ⟨2, by decide, if_pos h5⟩
  rw [if_neg h5]
  by_cases h6 : rangeB (bodyQ l) = false
  · exact .inl ⟨33, by decide, if_pos h6⟩
  rw [if_neg h6]
  exact .inr rfl
theorem dec_cases (l : List UInt8) : (Good l ∧ dec l = (bodyQ l, 0)) ∨ ((dec l).1 = zeroR 0 ∧ (dec l).2 ≠ 0) := by
  rw [dec_eq]
  rcases rdec_two l with ⟨n, hn, e⟩ | e
  · exact .inr ⟨by rw [e], by rw [e]; exact hn⟩
  · exact .inl ⟨((rdec_iff _ _).1 e).1, e⟩
set_option maxRecDepth 100000 in
set_option maxHeartbeats 4000000 in
@[go_sem high] theorem eqReq0 (x : Req) (w : World) : (Op.equalIn 10000 49 (.agg (rqC x)) (.agg zeroC)).run Tryz.prog w = .ok (reqEq x (zeroR 0)) w := eqReq x (zeroR 0) w
end Go.Proofs.YtmgpfkoomlgcoaaGreat
