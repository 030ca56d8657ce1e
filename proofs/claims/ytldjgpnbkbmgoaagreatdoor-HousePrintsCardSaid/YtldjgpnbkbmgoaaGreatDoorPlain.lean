/-
  The plain laws: what the program decodes is what the reference decodes. Conditions: none.
-/
import Derived.Test.YtldjgpnbkbmgoaaGreatDoorKnown
namespace Go.Proofs.YtldjgpnbkbmgoaaGreatDoor
open Go.RowKit Go.Lib

theorem beNat_one (x : UInt8) : beNat [x] = x.toNat := by simp [beNat]
theorem beNat_cons2 (x y : UInt8) : beNat [x, y] = 256 * x.toNat + y.toNat := by simp [beNat]

/-- The bytes, one by one, behind the first bytes: thirteen and the rest. -/
theorem split13 {l : List UInt8} (h : ¬ l.length < 13) : ∃ b0 b1 b2 b3 b4 b5 b6 b7 b8 b9 b10 b11 b12 r, l = b0 :: b1 :: b2 :: b3 :: b4 :: b5 :: b6 :: b7 :: b8 :: b9 :: b10 :: b11 :: b12 :: r := by
  rcases l with _ | ⟨b0, l⟩
  · exact absurd (by simp) h
  rcases l with _ | ⟨b1, l⟩
  · exact absurd (by simp) h
  rcases l with _ | ⟨b2, l⟩
  · exact absurd (by simp) h
  rcases l with _ | ⟨b3, l⟩
  · exact absurd (by simp) h
  rcases l with _ | ⟨b4, l⟩
  · exact absurd (by simp) h
  rcases l with _ | ⟨b5, l⟩
  · exact absurd (by simp) h
  rcases l with _ | ⟨b6, l⟩
  · exact absurd (by simp) h
  rcases l with _ | ⟨b7, l⟩
  · exact absurd (by simp) h
  rcases l with _ | ⟨b8, l⟩
  · exact absurd (by simp) h
  rcases l with _ | ⟨b9, l⟩
  · exact absurd (by simp) h
  rcases l with _ | ⟨b10, l⟩
  · exact absurd (by simp) h
  rcases l with _ | ⟨b11, l⟩
  · exact absurd (by simp) h
  rcases l with _ | ⟨b12, l⟩
  · exact absurd (by simp) h
  exact ⟨b0, b1, b2, b3, b4, b5, b6, b7, b8, b9, b10, b11, b12, l, rfl⟩

/-- What stands ahead, read. -/
theorem ahead_read {l : List UInt8} (h : ¬ l.length < 13) : aheadS (⟨2, l, 0, false⟩, zeroR 0) = (⟨2, l.drop 13, 13, decide (64 < (headR l).m)⟩, headR l) := by
  obtain ⟨b0, b1, b2, b3, b4, b5, b6, b7, b8, b9, b10, b11, b12, r, rfl⟩ := split13 h
  have h0 : b0.toNat < 256 := b0.toNat_lt
  have h1 : b1.toNat < 256 := b1.toNat_lt
  have h2 : b2.toNat < 256 := b2.toNat_lt
  have h3 : b3.toNat < 256 := b3.toNat_lt
  simp only [aheadS, nS, lS, headR, LOp, LTenant, LUser, LSecret, LM, byN]
  simp [beNat_one, beNat_cons2, zeroR]
  omega

theorem be2_le (l : List UInt8) : beNat (l.take 2) ≤ 65535 := by
  have h := beNat_lt (l.take 2).length (l.take 2) rfl
  have : 256 ^ (l.take 2).length ≤ 256 ^ 2 := Nat.pow_le_pow_right (by omega) (by simp; omega)
  omega
theorem be4_le (l : List UInt8) : beNat (l.take 4) ≤ 4294967295 := by
  have h := beNat_lt (l.take 4).length (l.take 4) rfl
  have : 256 ^ (l.take 4).length ≤ 256 ^ 4 := Nat.pow_le_pow_right (by omega) (by simp; omega)
  omega
theorem be2_not (l : List UInt8) : decide ((65535 : Int) < (beNat (l.take 2) : Nat)) = false := by
  have := be2_le l
  simp
  omega
theorem be4_not (l : List UInt8) : decide ((4294967295 : Int) < (beNat (l.take 4) : Nat)) = false := by
  have := be4_le l
  simp
  omega

set_option maxRecDepth 100000 in
set_option maxHeartbeats 4000000 in
/-- The fields, read. -/
theorem fields_read (q : Req) (r : List UInt8) (n : Int) (hop : isOp q.op = true) : (fieldsS (⟨2, r, n, false⟩, q)).2 = withR q (cutN r (widths q.op)) (if q.op = 3 then r else []) := by
  unfold fieldsS ruleS ownS
  rcases isOp_cases hop with h | h | h | h | h | h | h | h | h | h | h | h | h | h | h | h | h | h | h
  all_goals
    simp [h, nS, lS, tS, boxS, pointS, LWhom, LRole, LTier, LQuota, LRights, LZoom, LX0, LY0, LX1, LY1, LTil, LOther, LPk, LArea, LAx, LAy, LLabel, LFrm, withR, widths, cutN, List.drop_drop]

theorem dec_not_le (a b : Int) : (!decide (a ≤ b)) = decide (b < a) := by
  rw [Bool.eq_iff_iff]
  simp
def smallB (q : Req) : Bool := decide (q.role ≤ 7) && (decide (q.tier ≤ 7) && (decide (q.label ≤ 7) && (decide (q.rights ≤ 31) && decide (q.zoom ≤ 16))))
theorem rangeB_eq (q : Req) : rangeB q = (boxedB q && smallB q) := rfl
/-- None of the small numbers stands in it yet. -/
def Bare (q : Req) : Prop := q.role = 0 ∧ q.tier = 0 ∧ q.label = 0 ∧ q.rights = 0 ∧ q.zoom = 0
set_option maxRecDepth 100000 in
set_option maxHeartbeats 4000000 in
theorem fields_bad (q : Req) (r : List UInt8) (n : Int) (hop : isOp q.op = true) (hz : Bare q) : (fieldsS (⟨2, r, n, false⟩, q)).1.bad = !smallB (withR q (cutN r (widths q.op)) (if q.op = 3 then r else [])) := by
  obtain ⟨z1, z2, z3, z4, z5⟩ := hz
  unfold fieldsS ruleS ownS
  rcases isOp_cases hop with h | h | h | h | h | h | h | h | h | h | h | h | h | h | h | h | h | h | h
  all_goals
    simp [h, nS, lS, tS, boxS, pointS, LWhom, LRole, LTier, LQuota, LRights, LZoom, LX0, LY0, LX1, LY1, LTil, LOther, LPk, LArea, LAx, LAy, LLabel, LFrm, withR, widths, cutN, List.drop_drop, smallB, z1, z2, z3, z4, z5, be2_not, be4_not, -decide_eq_false_iff_not]
  all_goals simp only [dec_not_le]

theorem dec2_eq (q : Req) (r : List UInt8) (n : Int) (hz : Bare q) : dec2 (⟨2, r, n, decide (64 < q.m)⟩, q) = rdec2 q r := by
  unfold dec2 rdec2
  simp only
  by_cases hop : isOp q.op = true
  · have hop' : ¬ isOp q.op = false := by rw [hop]; decide
    rw [if_neg hop', if_neg hop']
    by_cases hm : 64 < q.m
    · have hm' : decide (64 < q.m) = true := decide_eq_true hm
      rw [if_pos hm', if_pos hm]
    · have hf : decide (64 < q.m) = false := decide_eq_false hm
      have hf' : ¬ decide (64 < q.m) = true := by rw [hf]; decide
      rw [if_neg hf', if_neg hm, hf]
      by_cases hs : r.length < fieldsN q.op
      · rw [if_pos hs, if_pos hs]
      · rw [if_neg hs, if_neg hs]
        have hN := fieldsN_le q.op
        have hc : (if q.op = 3 then 512 else fieldsN q.op) < r.length ↔ (q.op ≠ 3 ∧ fieldsN q.op < r.length) ∨ 512 < r.length := by
          by_cases h3 : q.op = 3
          · simp [h3]
          · simp [h3]
            omega
        by_cases hl : (if q.op = 3 then 512 else fieldsN q.op) < r.length
        · rw [if_pos hl, if_pos (hc.1 hl)]
        · rw [if_neg hl, if_neg (fun e => hl (hc.2 e)), fields_bad q r n hop hz, fields_read q r n hop, rangeB_eq]
          generalize withR q (cutN r (widths q.op)) (if q.op = 3 then r else []) = Q
          cases boxedB Q <;> cases smallB Q <;> rfl
  · rw [Bool.not_eq_true] at hop
    rw [if_pos hop, if_pos hop]

/-- The program decodes as the reference does. -/
theorem dec_eq (l : List UInt8) : dec l = rdec l := by
  unfold dec rdec
  by_cases h : l.length < 13
  · rw [if_pos h, if_pos h]
  · rw [if_neg h, if_neg h, ahead_read h]
    exact dec2_eq (headR l) (l.drop 13) 13 ⟨rfl, rfl, rfl, rfl, rfl⟩
end Go.Proofs.YtldjgpnbkbmgoaaGreatDoor
