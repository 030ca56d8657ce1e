/-
  The bytes that the reference writes, as plain lists; what is decoded is written so as it stood. Conditions: none.
-/
import Derived.Test.YtmgpfkoomlgcoaaGreatVals
import Derived.Test.YtmgpfkoomlgcoaaGreatLawBack
namespace Go.Proofs.YtmgpfkoomlgcoaaGreat
open Go.RowKit Go.Lib

def pF (p : List UInt8 × Bool) (x : Int × Nat) : List UInt8 × Bool := (putL p.1 x.1 x.2, p.2 && putB x.1 x.2)
def pFs (p : List UInt8 × Bool) (xs : List (Int × Nat)) : List UInt8 × Bool := xs.foldl pF p
theorem pFs_snoc (p : List UInt8 × Bool) (xs : List (Int × Nat)) (x : Int × Nat) : pFs p (xs ++ [x]) = pF (pFs p xs) x := by
  unfold pFs
  rw [List.foldl_append]
  rfl
theorem putL_len (l : List UInt8) (n : Int) (k : Nat) : (putL l n k).length ≤ l.length + k := by
  unfold putL
  split
  · omega
  · simp [toBE_len]
theorem pFs_len : ∀ (xs : List (Int × Nat)) (p : List UInt8 × Bool), (∀ x ∈ xs, x.2 ≤ 8) → (pFs p xs).1.length ≤ p.1.length + 8 * xs.length
  | [], p, _ => by simp [pFs]
  | x :: xs, p, h => by
    have h1 := h x (List.mem_cons_self ..)
    have h2 := putL_len p.1 x.1 x.2
    have h3 := pFs_len xs (pF p x) fun y hy => h y (List.mem_cons_of_mem _ hy)
    have e : pFs p (x :: xs) = pFs (pF p x) xs := rfl
    rw [e, List.length_cons]
    have e2 : (pF p x).1 = putL p.1 x.1 x.2 := rfl
    rw [e2] at h3
    omega
def aheadP (q : Req) : List (Int × Nat) := [(q.op, 1), (q.tenant, 1), (q.user, 2)]
def rbA (q : Req) : List UInt8 × Bool := pFs ([], true) (aheadP q)
def rbB (q : Req) : List UInt8 × Bool := pF ((rbA q).1 ++ toBE 8 q.secret, (rbA q).2) (q.m, 1)
def rbC (q : Req) : List UInt8 × Bool := pFs (rbB q) ((valsR q).zip (widths q.op))
def rbLong (q : Req) : Nat := if q.op = 6 then q.other else q.area
def rbD (q : Req) : List UInt8 := (rbC q).1 ++ (if q.op = 6 ∨ q.op = 7 then toBE 8 (rbLong q) else [])
def rbL (q : Req) : List UInt8 := rbD q ++ (if q.op = 3 then q.txt else [])
def rbOk (q : Req) : Bool := isOp q.op && (decide (q.m ≤ 64) && (decide (q.txt.length ≤ 512) && ((rbC q).2 && (reqEq (rdec (rbL q)).1 q && decide ((rdec (rbL q)).2 = 0)))))
/-- A request's numbers are no greater than an int holds. -/
def Req.ib (q : Req) : Prop := ∀ x ∈ [q.op, q.tenant, q.user, q.m, q.whom, q.role, q.tier, q.quota, q.rights, q.zoom, q.x0, q.y0, q.x1, q.y1, q.til, q.pk, q.ax, q.ay, q.label, q.frm], x < 9223372036854775808

theorem putL_nat (l : List UInt8) (n k : Nat) : putL l (n : Int) k = l ++ toBE k n := by
  unfold putL
  rw [if_neg (by omega)]
  rfl
theorem putB_nat (n k : Nat) (h : n < 256 ^ k) : putB (n : Int) k = true := by
  unfold putB
  rw [decide_eq_true (by omega)]
  simpa using h
theorem pF_nat (l : List UInt8) (n k : Nat) (h : n < 256 ^ k) : pF (l, true) ((n : Int), k) = (l ++ toBE k n, true) := by
  unfold pF
  rw [putL_nat, putB_nat n k h]
  rfl
theorem be_take_lt (k : Nat) (l : List UInt8) : beNat (l.take k) < 256 ^ k := by
  have h := beNat_lt (l.take k).length (l.take k) rfl
  exact Nat.lt_of_lt_of_le h (Nat.pow_le_pow_right (by omega) (by simp; omega))
/-- What stands ahead, written by the reference. -/
theorem rb_ahead {l : List UInt8} (h : 13 ≤ l.length) (z : Req) (h0 : z.op = (headR l).op) (h1 : z.tenant = (headR l).tenant) (h2 : z.user = (headR l).user) (h3 : z.secret = (headR l).secret) (h4 : z.m = (headR l).m) : rbB z = (l.take 13, true) := by
  obtain ⟨b0, b1, b2, b3, b4, b5, b6, b7, b8, b9, b10, b11, b12, r, rfl⟩ := split13 (Nat.not_lt.2 h)
  have u0 : b0.toNat < 256 := b0.toNat_lt
  have u1 : b1.toNat < 256 := b1.toNat_lt
  have u2 : b2.toNat < 256 := b2.toNat_lt
  have u3 : b3.toNat < 256 := b3.toNat_lt
  have u12 : b12.toNat < 256 := b12.toNat_lt
  have e0 : z.op = ((beNat [b0] : Nat) : Int) := by rw [h0, beNat_one]; rfl
  have e1 : z.tenant = ((beNat [b1] : Nat) : Int) := by rw [h1, beNat_one]; rfl
  have e2 : z.user = ((beNat [b2, b3] : Nat) : Int) := by rw [h2, beNat_cons2]; simp [headR, byN]
  have e3 : z.secret = beNat [b4, b5, b6, b7, b8, b9, b10, b11] := by rw [h3]; rfl
  have e4 : z.m = ((beNat [b12] : Nat) : Int) := by rw [h4, beNat_one]; rfl
  have f0 : beNat [b0] < 256 ^ 1 := by rw [beNat_one]; omega
  have f1 : beNat [b1] < 256 ^ 1 := by rw [beNat_one]; omega
  have f2 : beNat [b2, b3] < 256 ^ 2 := by rw [beNat_cons2]; omega
  have f4 : beNat [b12] < 256 ^ 1 := by rw [beNat_one]; omega
  have ea : rbA z = ([b0, b1, b2, b3], true) := by
    show pF (pF (pF ([], true) (z.op, 1)) (z.tenant, 1)) (z.user, 2) = _
    rw [e0, e1, e2, pF_nat _ _ _ f0, pF_nat _ _ _ f1, pF_nat _ _ _ f2, toBE_beNat 1 [b0] rfl, toBE_beNat 1 [b1] rfl, toBE_beNat 2 [b2, b3] rfl]
    rfl
  unfold rbB
  rw [ea, e3, e4, pF_nat _ _ _ f4, toBE_beNat 8 [b4, b5, b6, b7, b8, b9, b10, b11] rfl, toBE_beNat 1 [b12] rfl]
  rfl

theorem rb_1 (l : List UInt8) (h : Good l) (hop : (headR l).op = 1) : rbL (bodyQ l) = l ∧ (rbC (bodyQ l)).2 = true := by
  have hh := withR_head (headR l) (cutN (l.drop 13) (widths (headR l).op)) (if (headR l).op = 3 then l.drop 13 else [])
  have hB := rb_ahead h.len (bodyQ l) hh.op hh.tenant hh.user hh.secret hh.m
  have ho : (bodyQ l).op = 1 := by rw [bodyQ_op, hop]
  have hr : (l.drop 13).length = 6 := by
    have h1 := h.lo
    have h2 := h.hi (by rw [hop]; decide)
    have h3 : fieldsN 1 = 6 := rfl
    rw [hop, h3] at h1 h2
    rw [List.length_drop]
    omega
  have hz := show bodyQ l = withR (headR l) (cutN (l.drop 13) (widths (headR l).op)) (if (headR l).op = 3 then l.drop 13 else []) from rfl
  simp only [withR, hop, widths] at hz
  simp only [reduceIte, Int.reduceEq] at hz
  obtain ⟨a, ha⟩ : ∃ a, l.take 13 = a := ⟨_, rfl⟩
  obtain ⟨r, hrr⟩ : ∃ r, l.drop 13 = r := ⟨_, rfl⟩
  have hl : l = a ++ r := by rw [← ha, ← hrr, List.take_append_drop]
  rw [ha] at hB
  rw [hrr] at hr hz
  have v0 : (bodyQ l).whom = ((beNat (r.take 2) : Nat) : Int) := by rw [hz]; simp [cutN, List.drop_drop]
  have v1 : (bodyQ l).role = ((beNat ((r.drop 2).take 1) : Nat) : Int) := by rw [hz]; simp [cutN, List.drop_drop]
  have v2 : (bodyQ l).tier = ((beNat ((r.drop 3).take 1) : Nat) : Int) := by rw [hz]; simp [cutN, List.drop_drop]
  have v3 : (bodyQ l).quota = ((beNat ((r.drop 4).take 2) : Nat) : Int) := by rw [hz]; simp [cutN, List.drop_drop]
  have hv : valsR (bodyQ l) = [(bodyQ l).whom, (bodyQ l).role, (bodyQ l).tier, (bodyQ l).quota] := by unfold valsR; simp [ho]
  have hC : rbC (bodyQ l) = (((((a ++ (r.take 2)) ++ ((r.drop 2).take 1)) ++ ((r.drop 3).take 1)) ++ ((r.drop 4).take 2)), true) := by
    unfold rbC
    rw [hB, hv, ho]
    show pF (pF (pF (pF ((a, true)) ((bodyQ l).whom, 2)) ((bodyQ l).role, 1)) ((bodyQ l).tier, 1)) ((bodyQ l).quota, 2) = _
    rw [v0, pF_nat _ _ _ (be_take_lt _ _), toBE_take 2 r (by omega), v1, pF_nat _ _ _ (be_take_lt _ _), toBE_take 1 (r.drop 2) (by rw [List.length_drop]; omega), v2, pF_nat _ _ _ (be_take_lt _ _), toBE_take 1 (r.drop 3) (by rw [List.length_drop]; omega), v3, pF_nat _ _ _ (be_take_lt _ _), toBE_take 2 (r.drop 4) (by rw [List.length_drop]; omega)]
  refine ⟨?_, by rw [hC]⟩
  unfold rbL rbD rbLong
  rw [hC, ho]
  simp only [reduceIte, Int.reduceEq, or_false, List.append_nil]
  have hj : ((((r.take 2) ++ ((r.drop 2).take 1)) ++ ((r.drop 3).take 1)) ++ ((r.drop 4).take 2)) = r := by rw [← List.take_add, ← List.take_add, ← List.take_add, List.take_of_length_le (by omega)]
  have e := hl.trans (congrArg (a ++ ·) hj.symm)
  rw [e]
  try simp only [List.append_assoc]

theorem rb_2 (l : List UInt8) (h : Good l) (hop : (headR l).op = 2) : rbL (bodyQ l) = l ∧ (rbC (bodyQ l)).2 = true := by
  have hh := withR_head (headR l) (cutN (l.drop 13) (widths (headR l).op)) (if (headR l).op = 3 then l.drop 13 else [])
  have hB := rb_ahead h.len (bodyQ l) hh.op hh.tenant hh.user hh.secret hh.m
  have ho : (bodyQ l).op = 2 := by rw [bodyQ_op, hop]
  have hr : (l.drop 13).length = 2 := by
    have h1 := h.lo
    have h2 := h.hi (by rw [hop]; decide)
    have h3 : fieldsN 2 = 2 := rfl
    rw [hop, h3] at h1 h2
    rw [List.length_drop]
    omega
  have hz := show bodyQ l = withR (headR l) (cutN (l.drop 13) (widths (headR l).op)) (if (headR l).op = 3 then l.drop 13 else []) from rfl
  simp only [withR, hop, widths] at hz
  simp only [reduceIte, Int.reduceEq] at hz
  obtain ⟨a, ha⟩ : ∃ a, l.take 13 = a := ⟨_, rfl⟩
  obtain ⟨r, hrr⟩ : ∃ r, l.drop 13 = r := ⟨_, rfl⟩
  have hl : l = a ++ r := by rw [← ha, ← hrr, List.take_append_drop]
  rw [ha] at hB
  rw [hrr] at hr hz
  have v0 : (bodyQ l).whom = ((beNat (r.take 2) : Nat) : Int) := by rw [hz]; simp [cutN]
  have hv : valsR (bodyQ l) = [(bodyQ l).whom] := by unfold valsR; simp [ho]
  have hC : rbC (bodyQ l) = ((a ++ (r.take 2)), true) := by
    unfold rbC
    rw [hB, hv, ho]
    show pF ((a, true)) ((bodyQ l).whom, 2) = _
    rw [v0, pF_nat _ _ _ (be_take_lt _ _), toBE_take 2 r (by omega)]
  refine ⟨?_, by rw [hC]⟩
  unfold rbL rbD rbLong
  rw [hC, ho]
  simp only [reduceIte, Int.reduceEq, or_false, List.append_nil]
  have hj : (r.take 2) = r := by rw [List.take_of_length_le (by omega)]
  have e := hl.trans (congrArg (a ++ ·) hj.symm)
  rw [e]
  try simp only [List.append_assoc]

theorem rb_3 (l : List UInt8) (h : Good l) (hop : (headR l).op = 3) : rbL (bodyQ l) = l ∧ (rbC (bodyQ l)).2 = true := by
  have hh := withR_head (headR l) (cutN (l.drop 13) (widths (headR l).op)) (if (headR l).op = 3 then l.drop 13 else [])
  have hB := rb_ahead h.len (bodyQ l) hh.op hh.tenant hh.user hh.secret hh.m
  have ho : (bodyQ l).op = 3 := by rw [bodyQ_op, hop]
  have hz := show bodyQ l = withR (headR l) (cutN (l.drop 13) (widths (headR l).op)) (if (headR l).op = 3 then l.drop 13 else []) from rfl
  simp only [withR, hop, widths] at hz
  simp only [reduceIte, Int.reduceEq] at hz
  obtain ⟨a, ha⟩ : ∃ a, l.take 13 = a := ⟨_, rfl⟩
  obtain ⟨r, hrr⟩ : ∃ r, l.drop 13 = r := ⟨_, rfl⟩
  have hl : l = a ++ r := by rw [← ha, ← hrr, List.take_append_drop]
  rw [ha] at hB
  rw [hrr] at hz
  have vt : (bodyQ l).txt = r := by rw [hz]
  have hv : valsR (bodyQ l) = [] := by unfold valsR; simp [ho]
  have hC : rbC (bodyQ l) = (a, true) := by
    unfold rbC
    rw [hB, hv, ho]
    show (a, true) = _
    rfl
  refine ⟨?_, by rw [hC]⟩
  unfold rbL rbD rbLong
  rw [hC, ho]
  simp only [reduceIte, Int.reduceEq, or_false, List.append_nil]
  rw [vt, hl]
theorem rb_4 (l : List UInt8) (h : Good l) (hop : (headR l).op = 4) : rbL (bodyQ l) = l ∧ (rbC (bodyQ l)).2 = true := by
  have hh := withR_head (headR l) (cutN (l.drop 13) (widths (headR l).op)) (if (headR l).op = 3 then l.drop 13 else [])
  have hB := rb_ahead h.len (bodyQ l) hh.op hh.tenant hh.user hh.secret hh.m
  have ho : (bodyQ l).op = 4 := by rw [bodyQ_op, hop]
  have hr : (l.drop 13).length = 7 := by
    have h1 := h.lo
    have h2 := h.hi (by rw [hop]; decide)
    have h3 : fieldsN 4 = 7 := rfl
    rw [hop, h3] at h1 h2
    rw [List.length_drop]
    omega
  have hz := show bodyQ l = withR (headR l) (cutN (l.drop 13) (widths (headR l).op)) (if (headR l).op = 3 then l.drop 13 else []) from rfl
  simp only [withR, hop, widths] at hz
  simp only [reduceIte, Int.reduceEq] at hz
  obtain ⟨a, ha⟩ : ∃ a, l.take 13 = a := ⟨_, rfl⟩
  obtain ⟨r, hrr⟩ : ∃ r, l.drop 13 = r := ⟨_, rfl⟩
  have hl : l = a ++ r := by rw [← ha, ← hrr, List.take_append_drop]
  rw [ha] at hB
  rw [hrr] at hr hz
  have v0 : (bodyQ l).whom = ((beNat (r.take 2) : Nat) : Int) := by rw [hz]; simp [cutN, List.drop_drop]
  have v1 : (bodyQ l).rights = ((beNat ((r.drop 2).take 1) : Nat) : Int) := by rw [hz]; simp [cutN, List.drop_drop]
  have v2 : (bodyQ l).til = ((beNat ((r.drop 3).take 4) : Nat) : Int) := by rw [hz]; simp [cutN, List.drop_drop]
  have hv : valsR (bodyQ l) = [(bodyQ l).whom, (bodyQ l).rights, (bodyQ l).til] := by unfold valsR; simp [ho]
  have hC : rbC (bodyQ l) = ((((a ++ (r.take 2)) ++ ((r.drop 2).take 1)) ++ ((r.drop 3).take 4)), true) := by
    unfold rbC
    rw [hB, hv, ho]
    show pF (pF (pF ((a, true)) ((bodyQ l).whom, 2)) ((bodyQ l).rights, 1)) ((bodyQ l).til, 4) = _
    rw [v0, pF_nat _ _ _ (be_take_lt _ _), toBE_take 2 r (by omega), v1, pF_nat _ _ _ (be_take_lt _ _), toBE_take 1 (r.drop 2) (by rw [List.length_drop]; omega), v2, pF_nat _ _ _ (be_take_lt _ _), toBE_take 4 (r.drop 3) (by rw [List.length_drop]; omega)]
  refine ⟨?_, by rw [hC]⟩
  unfold rbL rbD rbLong
  rw [hC, ho]
  simp only [reduceIte, Int.reduceEq, or_false, List.append_nil]
  have hj : (((r.take 2) ++ ((r.drop 2).take 1)) ++ ((r.drop 3).take 4)) = r := by rw [← List.take_add, ← List.take_add, List.take_of_length_le (by omega)]
  have e := hl.trans (congrArg (a ++ ·) hj.symm)
  rw [e]
  try simp only [List.append_assoc]

theorem rb_5 (l : List UInt8) (h : Good l) (hop : (headR l).op = 5) : rbL (bodyQ l) = l ∧ (rbC (bodyQ l)).2 = true := by
  have hh := withR_head (headR l) (cutN (l.drop 13) (widths (headR l).op)) (if (headR l).op = 3 then l.drop 13 else [])
  have hB := rb_ahead h.len (bodyQ l) hh.op hh.tenant hh.user hh.secret hh.m
  have ho : (bodyQ l).op = 5 := by rw [bodyQ_op, hop]
  have hr : (l.drop 13).length = 14 := by
    have h1 := h.lo
    have h2 := h.hi (by rw [hop]; decide)
    have h3 : fieldsN 5 = 14 := rfl
    rw [hop, h3] at h1 h2
    rw [List.length_drop]
    omega
  have hz := show bodyQ l = withR (headR l) (cutN (l.drop 13) (widths (headR l).op)) (if (headR l).op = 3 then l.drop 13 else []) from rfl
  simp only [withR, hop, widths] at hz
  simp only [reduceIte, Int.reduceEq] at hz
  obtain ⟨a, ha⟩ : ∃ a, l.take 13 = a := ⟨_, rfl⟩
  obtain ⟨r, hrr⟩ : ∃ r, l.drop 13 = r := ⟨_, rfl⟩
  have hl : l = a ++ r := by rw [← ha, ← hrr, List.take_append_drop]
  rw [ha] at hB
  rw [hrr] at hr hz
  have v0 : (bodyQ l).rights = ((beNat (r.take 1) : Nat) : Int) := by rw [hz]; simp [cutN, List.drop_drop]
  have v1 : (bodyQ l).zoom = ((beNat ((r.drop 1).take 1) : Nat) : Int) := by rw [hz]; simp [cutN, List.drop_drop]
  have v2 : (bodyQ l).x0 = ((beNat ((r.drop 2).take 2) : Nat) : Int) := by rw [hz]; simp [cutN, List.drop_drop]
  have v3 : (bodyQ l).y0 = ((beNat ((r.drop 4).take 2) : Nat) : Int) := by rw [hz]; simp [cutN, List.drop_drop]
  have v4 : (bodyQ l).x1 = ((beNat ((r.drop 6).take 2) : Nat) : Int) := by rw [hz]; simp [cutN, List.drop_drop]
  have v5 : (bodyQ l).y1 = ((beNat ((r.drop 8).take 2) : Nat) : Int) := by rw [hz]; simp [cutN, List.drop_drop]
  have v6 : (bodyQ l).til = ((beNat ((r.drop 10).take 4) : Nat) : Int) := by rw [hz]; simp [cutN, List.drop_drop]
  have hv : valsR (bodyQ l) = [(bodyQ l).rights, (bodyQ l).zoom, (bodyQ l).x0, (bodyQ l).y0, (bodyQ l).x1, (bodyQ l).y1, (bodyQ l).til] := by unfold valsR; simp [ho]
  have hC : rbC (bodyQ l) = ((((((((a ++ (r.take 1)) ++ ((r.drop 1).take 1)) ++ ((r.drop 2).take 2)) ++ ((r.drop 4).take 2)) ++ ((r.drop 6).take 2)) ++ ((r.drop 8).take 2)) ++ ((r.drop 10).take 4)), true) := by
    unfold rbC
    rw [hB, hv, ho]
    show pF (pF (pF (pF (pF (pF (pF ((a, true)) ((bodyQ l).rights, 1)) ((bodyQ l).zoom, 1)) ((bodyQ l).x0, 2)) ((bodyQ l).y0, 2)) ((bodyQ l).x1, 2)) ((bodyQ l).y1, 2)) ((bodyQ l).til, 4) = _
    rw [v0, pF_nat _ _ _ (be_take_lt _ _), toBE_take 1 r (by omega), v1, pF_nat _ _ _ (be_take_lt _ _), toBE_take 1 (r.drop 1) (by rw [List.length_drop]; omega), v2, pF_nat _ _ _ (be_take_lt _ _), toBE_take 2 (r.drop 2) (by rw [List.length_drop]; omega), v3, pF_nat _ _ _ (be_take_lt _ _), toBE_take 2 (r.drop 4) (by rw [List.length_drop]; omega), v4, pF_nat _ _ _ (be_take_lt _ _), toBE_take 2 (r.drop 6) (by rw [List.length_drop]; omega), v5, pF_nat _ _ _ (be_take_lt _ _), toBE_take 2 (r.drop 8) (by rw [List.length_drop]; omega), v6, pF_nat _ _ _ (be_take_lt _ _), toBE_take 4 (r.drop 10) (by rw [List.length_drop]; omega)]
  refine ⟨?_, by rw [hC]⟩
  unfold rbL rbD rbLong
  rw [hC, ho]
  simp only [reduceIte, Int.reduceEq, or_false, List.append_nil]
  have hj : (((((((r.take 1) ++ ((r.drop 1).take 1)) ++ ((r.drop 2).take 2)) ++ ((r.drop 4).take 2)) ++ ((r.drop 6).take 2)) ++ ((r.drop 8).take 2)) ++ ((r.drop 10).take 4)) = r := by rw [← List.take_add, ← List.take_add, ← List.take_add, ← List.take_add, ← List.take_add, ← List.take_add, List.take_of_length_le (by omega)]
  have e := hl.trans (congrArg (a ++ ·) hj.symm)
  rw [e]
  try simp only [List.append_assoc]

theorem rb_6 (l : List UInt8) (h : Good l) (hop : (headR l).op = 6) : rbL (bodyQ l) = l ∧ (rbC (bodyQ l)).2 = true := by
  have hh := withR_head (headR l) (cutN (l.drop 13) (widths (headR l).op)) (if (headR l).op = 3 then l.drop 13 else [])
  have hB := rb_ahead h.len (bodyQ l) hh.op hh.tenant hh.user hh.secret hh.m
  have ho : (bodyQ l).op = 6 := by rw [bodyQ_op, hop]
  have hr : (l.drop 13).length = 8 := by
    have h1 := h.lo
    have h2 := h.hi (by rw [hop]; decide)
    have h3 : fieldsN 6 = 8 := rfl
    rw [hop, h3] at h1 h2
    rw [List.length_drop]
    omega
  have hz := show bodyQ l = withR (headR l) (cutN (l.drop 13) (widths (headR l).op)) (if (headR l).op = 3 then l.drop 13 else []) from rfl
  simp only [withR, hop, widths] at hz
  simp only [reduceIte, Int.reduceEq] at hz
  obtain ⟨a, ha⟩ : ∃ a, l.take 13 = a := ⟨_, rfl⟩
  obtain ⟨r, hrr⟩ : ∃ r, l.drop 13 = r := ⟨_, rfl⟩
  have hl : l = a ++ r := by rw [← ha, ← hrr, List.take_append_drop]
  rw [ha] at hB
  rw [hrr] at hr hz
  have v0 : (bodyQ l).other = beNat (r.take 8) := by rw [hz]; simp [cutN]
  have hv : valsR (bodyQ l) = [] := by unfold valsR; simp [ho]
  have hC : rbC (bodyQ l) = (a, true) := by
    unfold rbC
    rw [hB, hv, ho]
    show (a, true) = _
    rfl
  refine ⟨?_, by rw [hC]⟩
  unfold rbL rbD rbLong
  rw [hC, ho]
  simp only [reduceIte, Int.reduceEq, or_false, List.append_nil]
  rw [v0, toBE_take 8 r (by omega)]
  have hj : (r.take 8) = r := by rw [List.take_of_length_le (by omega)]
  have e := hl.trans (congrArg (a ++ ·) hj.symm)
  rw [e]
  try simp only [List.append_assoc]

theorem rb_7 (l : List UInt8) (h : Good l) (hop : (headR l).op = 7) : rbL (bodyQ l) = l ∧ (rbC (bodyQ l)).2 = true := by
  have hh := withR_head (headR l) (cutN (l.drop 13) (widths (headR l).op)) (if (headR l).op = 3 then l.drop 13 else [])
  have hB := rb_ahead h.len (bodyQ l) hh.op hh.tenant hh.user hh.secret hh.m
  have ho : (bodyQ l).op = 7 := by rw [bodyQ_op, hop]
  have hr : (l.drop 13).length = 10 := by
    have h1 := h.lo
    have h2 := h.hi (by rw [hop]; decide)
    have h3 : fieldsN 7 = 10 := rfl
    rw [hop, h3] at h1 h2
    rw [List.length_drop]
    omega
  have hz := show bodyQ l = withR (headR l) (cutN (l.drop 13) (widths (headR l).op)) (if (headR l).op = 3 then l.drop 13 else []) from rfl
  simp only [withR, hop, widths] at hz
  simp only [reduceIte, Int.reduceEq] at hz
  obtain ⟨a, ha⟩ : ∃ a, l.take 13 = a := ⟨_, rfl⟩
  obtain ⟨r, hrr⟩ : ∃ r, l.drop 13 = r := ⟨_, rfl⟩
  have hl : l = a ++ r := by rw [← ha, ← hrr, List.take_append_drop]
  rw [ha] at hB
  rw [hrr] at hr hz
  have v0 : (bodyQ l).pk = ((beNat (r.take 2) : Nat) : Int) := by rw [hz]; simp [cutN]
  have v1 : (bodyQ l).area = beNat ((r.drop 2).take 8) := by rw [hz]; simp [cutN]
  have hv : valsR (bodyQ l) = [(bodyQ l).pk] := by unfold valsR; simp [ho]
  have hC : rbC (bodyQ l) = ((a ++ (r.take 2)), true) := by
    unfold rbC
    rw [hB, hv, ho]
    show pF ((a, true)) ((bodyQ l).pk, 2) = _
    rw [v0, pF_nat _ _ _ (be_take_lt _ _), toBE_take 2 r (by omega)]
  refine ⟨?_, by rw [hC]⟩
  unfold rbL rbD rbLong
  rw [hC, ho]
  simp only [reduceIte, Int.reduceEq, or_true, List.append_nil]
  rw [v1, toBE_take 8 (r.drop 2) (by rw [List.length_drop]; omega)]
  have hj : ((r.take 2) ++ ((r.drop 2).take 8)) = r := by rw [← List.take_add, List.take_of_length_le (by omega)]
  have e := hl.trans (congrArg (a ++ ·) hj.symm)
  rw [e]
  try simp only [List.append_assoc]

theorem rb_8 (l : List UInt8) (h : Good l) (hop : (headR l).op = 8) : rbL (bodyQ l) = l ∧ (rbC (bodyQ l)).2 = true := by
  have hh := withR_head (headR l) (cutN (l.drop 13) (widths (headR l).op)) (if (headR l).op = 3 then l.drop 13 else [])
  have hB := rb_ahead h.len (bodyQ l) hh.op hh.tenant hh.user hh.secret hh.m
  have ho : (bodyQ l).op = 8 := by rw [bodyQ_op, hop]
  have hr : (l.drop 13).length = 5 := by
    have h1 := h.lo
    have h2 := h.hi (by rw [hop]; decide)
    have h3 : fieldsN 8 = 5 := rfl
    rw [hop, h3] at h1 h2
    rw [List.length_drop]
    omega
  have hz := show bodyQ l = withR (headR l) (cutN (l.drop 13) (widths (headR l).op)) (if (headR l).op = 3 then l.drop 13 else []) from rfl
  simp only [withR, hop, widths] at hz
  simp only [reduceIte, Int.reduceEq] at hz
  obtain ⟨a, ha⟩ : ∃ a, l.take 13 = a := ⟨_, rfl⟩
  obtain ⟨r, hrr⟩ : ∃ r, l.drop 13 = r := ⟨_, rfl⟩
  have hl : l = a ++ r := by rw [← ha, ← hrr, List.take_append_drop]
  rw [ha] at hB
  rw [hrr] at hr hz
  have v0 : (bodyQ l).ax = ((beNat (r.take 2) : Nat) : Int) := by rw [hz]; simp [cutN, List.drop_drop]
  have v1 : (bodyQ l).ay = ((beNat ((r.drop 2).take 2) : Nat) : Int) := by rw [hz]; simp [cutN, List.drop_drop]
  have v2 : (bodyQ l).label = ((beNat ((r.drop 4).take 1) : Nat) : Int) := by rw [hz]; simp [cutN, List.drop_drop]
  have hv : valsR (bodyQ l) = [(bodyQ l).ax, (bodyQ l).ay, (bodyQ l).label] := by unfold valsR; simp [ho]
  have hC : rbC (bodyQ l) = ((((a ++ (r.take 2)) ++ ((r.drop 2).take 2)) ++ ((r.drop 4).take 1)), true) := by
    unfold rbC
    rw [hB, hv, ho]
    show pF (pF (pF ((a, true)) ((bodyQ l).ax, 2)) ((bodyQ l).ay, 2)) ((bodyQ l).label, 1) = _
    rw [v0, pF_nat _ _ _ (be_take_lt _ _), toBE_take 2 r (by omega), v1, pF_nat _ _ _ (be_take_lt _ _), toBE_take 2 (r.drop 2) (by rw [List.length_drop]; omega), v2, pF_nat _ _ _ (be_take_lt _ _), toBE_take 1 (r.drop 4) (by rw [List.length_drop]; omega)]
  refine ⟨?_, by rw [hC]⟩
  unfold rbL rbD rbLong
  rw [hC, ho]
  simp only [reduceIte, Int.reduceEq, or_false, List.append_nil]
  have hj : (((r.take 2) ++ ((r.drop 2).take 2)) ++ ((r.drop 4).take 1)) = r := by rw [← List.take_add, ← List.take_add, List.take_of_length_le (by omega)]
  have e := hl.trans (congrArg (a ++ ·) hj.symm)
  rw [e]
  try simp only [List.append_assoc]

theorem rb_9 (l : List UInt8) (h : Good l) (hop : (headR l).op = 9) : rbL (bodyQ l) = l ∧ (rbC (bodyQ l)).2 = true := by
  have hh := withR_head (headR l) (cutN (l.drop 13) (widths (headR l).op)) (if (headR l).op = 3 then l.drop 13 else [])
  have hB := rb_ahead h.len (bodyQ l) hh.op hh.tenant hh.user hh.secret hh.m
  have ho : (bodyQ l).op = 9 := by rw [bodyQ_op, hop]
  have hr : (l.drop 13).length = 0 := by
    have h1 := h.lo
    have h2 := h.hi (by rw [hop]; decide)
    have h3 : fieldsN 9 = 0 := rfl
    rw [hop, h3] at h1 h2
    rw [List.length_drop]
    omega
  have hz := show bodyQ l = withR (headR l) (cutN (l.drop 13) (widths (headR l).op)) (if (headR l).op = 3 then l.drop 13 else []) from rfl
  simp only [withR, hop, widths] at hz
  simp only [reduceIte, Int.reduceEq] at hz
  obtain ⟨a, ha⟩ : ∃ a, l.take 13 = a := ⟨_, rfl⟩
  obtain ⟨r, hrr⟩ : ∃ r, l.drop 13 = r := ⟨_, rfl⟩
  have hl : l = a ++ r := by rw [← ha, ← hrr, List.take_append_drop]
  rw [ha] at hB
  rw [hrr] at hr
  have hv : valsR (bodyQ l) = [] := by unfold valsR; simp [ho]
  have hC : rbC (bodyQ l) = (a, true) := by
    unfold rbC
    rw [hB, hv, ho]
    show (a, true) = _
    rfl
  refine ⟨?_, by rw [hC]⟩
  unfold rbL rbD rbLong
  rw [hC, ho]
  simp only [reduceIte, Int.reduceEq, or_false, List.append_nil]
  have hr0 : r = [] := List.eq_nil_of_length_eq_zero hr
  rw [hl, hr0, List.append_nil]
theorem rb_10 (l : List UInt8) (h : Good l) (hop : (headR l).op = 10) : rbL (bodyQ l) = l ∧ (rbC (bodyQ l)).2 = true := by
  have hh := withR_head (headR l) (cutN (l.drop 13) (widths (headR l).op)) (if (headR l).op = 3 then l.drop 13 else [])
  have hB := rb_ahead h.len (bodyQ l) hh.op hh.tenant hh.user hh.secret hh.m
  have ho : (bodyQ l).op = 10 := by rw [bodyQ_op, hop]
  have hr : (l.drop 13).length = 0 := by
    have h1 := h.lo
    have h2 := h.hi (by rw [hop]; decide)
    have h3 : fieldsN 10 = 0 := rfl
    rw [hop, h3] at h1 h2
    rw [List.length_drop]
    omega
  have hz := show bodyQ l = withR (headR l) (cutN (l.drop 13) (widths (headR l).op)) (if (headR l).op = 3 then l.drop 13 else []) from rfl
  simp only [withR, hop, widths] at hz
  simp only [reduceIte, Int.reduceEq] at hz
  obtain ⟨a, ha⟩ : ∃ a, l.take 13 = a := ⟨_, rfl⟩
  obtain ⟨r, hrr⟩ : ∃ r, l.drop 13 = r := ⟨_, rfl⟩
  have hl : l = a ++ r := by rw [← ha, ← hrr, List.take_append_drop]
  rw [ha] at hB
  rw [hrr] at hr
  have hv : valsR (bodyQ l) = [] := by unfold valsR; simp [ho]
  have hC : rbC (bodyQ l) = (a, true) := by
    unfold rbC
    rw [hB, hv, ho]
    show (a, true) = _
    rfl
  refine ⟨?_, by rw [hC]⟩
  unfold rbL rbD rbLong
  rw [hC, ho]
  simp only [reduceIte, Int.reduceEq, or_false, List.append_nil]
  have hr0 : r = [] := List.eq_nil_of_length_eq_zero hr
  rw [hl, hr0, List.append_nil]
theorem rb_11 (l : List UInt8) (h : Good l) (hop : (headR l).op = 11) : rbL (bodyQ l) = l ∧ (rbC (bodyQ l)).2 = true := by
  have hh := withR_head (headR l) (cutN (l.drop 13) (widths (headR l).op)) (if (headR l).op = 3 then l.drop 13 else [])
  have hB := rb_ahead h.len (bodyQ l) hh.op hh.tenant hh.user hh.secret hh.m
  have ho : (bodyQ l).op = 11 := by rw [bodyQ_op, hop]
  have hr : (l.drop 13).length = 0 := by
    have h1 := h.lo
    have h2 := h.hi (by rw [hop]; decide)
    have h3 : fieldsN 11 = 0 := rfl
    rw [hop, h3] at h1 h2
    rw [List.length_drop]
    omega
  have hz := show bodyQ l = withR (headR l) (cutN (l.drop 13) (widths (headR l).op)) (if (headR l).op = 3 then l.drop 13 else []) from rfl
  simp only [withR, hop, widths] at hz
  simp only [reduceIte, Int.reduceEq] at hz
  obtain ⟨a, ha⟩ : ∃ a, l.take 13 = a := ⟨_, rfl⟩
  obtain ⟨r, hrr⟩ : ∃ r, l.drop 13 = r := ⟨_, rfl⟩
  have hl : l = a ++ r := by rw [← ha, ← hrr, List.take_append_drop]
  rw [ha] at hB
  rw [hrr] at hr
  have hv : valsR (bodyQ l) = [] := by unfold valsR; simp [ho]
  have hC : rbC (bodyQ l) = (a, true) := by
    unfold rbC
    rw [hB, hv, ho]
    show (a, true) = _
    rfl
  refine ⟨?_, by rw [hC]⟩
  unfold rbL rbD rbLong
  rw [hC, ho]
  simp only [reduceIte, Int.reduceEq, or_false, List.append_nil]
  have hr0 : r = [] := List.eq_nil_of_length_eq_zero hr
  rw [hl, hr0, List.append_nil]
theorem rb_12 (l : List UInt8) (h : Good l) (hop : (headR l).op = 12) : rbL (bodyQ l) = l ∧ (rbC (bodyQ l)).2 = true := by
  have hh := withR_head (headR l) (cutN (l.drop 13) (widths (headR l).op)) (if (headR l).op = 3 then l.drop 13 else [])
  have hB := rb_ahead h.len (bodyQ l) hh.op hh.tenant hh.user hh.secret hh.m
  have ho : (bodyQ l).op = 12 := by rw [bodyQ_op, hop]
  have hr : (l.drop 13).length = 0 := by
    have h1 := h.lo
    have h2 := h.hi (by rw [hop]; decide)
    have h3 : fieldsN 12 = 0 := rfl
    rw [hop, h3] at h1 h2
    rw [List.length_drop]
    omega
  have hz := show bodyQ l = withR (headR l) (cutN (l.drop 13) (widths (headR l).op)) (if (headR l).op = 3 then l.drop 13 else []) from rfl
  simp only [withR, hop, widths] at hz
  simp only [reduceIte, Int.reduceEq] at hz
  obtain ⟨a, ha⟩ : ∃ a, l.take 13 = a := ⟨_, rfl⟩
  obtain ⟨r, hrr⟩ : ∃ r, l.drop 13 = r := ⟨_, rfl⟩
  have hl : l = a ++ r := by rw [← ha, ← hrr, List.take_append_drop]
  rw [ha] at hB
  rw [hrr] at hr
  have hv : valsR (bodyQ l) = [] := by unfold valsR; simp [ho]
  have hC : rbC (bodyQ l) = (a, true) := by
    unfold rbC
    rw [hB, hv, ho]
    show (a, true) = _
    rfl
  refine ⟨?_, by rw [hC]⟩
  unfold rbL rbD rbLong
  rw [hC, ho]
  simp only [reduceIte, Int.reduceEq, or_false, List.append_nil]
  have hr0 : r = [] := List.eq_nil_of_length_eq_zero hr
  rw [hl, hr0, List.append_nil]
theorem rb_13 (l : List UInt8) (h : Good l) (hop : (headR l).op = 13) : rbL (bodyQ l) = l ∧ (rbC (bodyQ l)).2 = true := by
  have hh := withR_head (headR l) (cutN (l.drop 13) (widths (headR l).op)) (if (headR l).op = 3 then l.drop 13 else [])
  have hB := rb_ahead h.len (bodyQ l) hh.op hh.tenant hh.user hh.secret hh.m
  have ho : (bodyQ l).op = 13 := by rw [bodyQ_op, hop]
  have hr : (l.drop 13).length = 8 := by
    have h1 := h.lo
    have h2 := h.hi (by rw [hop]; decide)
    have h3 : fieldsN 13 = 8 := rfl
    rw [hop, h3] at h1 h2
    rw [List.length_drop]
    omega
  have hz := show bodyQ l = withR (headR l) (cutN (l.drop 13) (widths (headR l).op)) (if (headR l).op = 3 then l.drop 13 else []) from rfl
  simp only [withR, hop, widths] at hz
  simp only [reduceIte, Int.reduceEq] at hz
  obtain ⟨a, ha⟩ : ∃ a, l.take 13 = a := ⟨_, rfl⟩
  obtain ⟨r, hrr⟩ : ∃ r, l.drop 13 = r := ⟨_, rfl⟩
  have hl : l = a ++ r := by rw [← ha, ← hrr, List.take_append_drop]
  rw [ha] at hB
  rw [hrr] at hr hz
  have v0 : (bodyQ l).x0 = ((beNat (r.take 2) : Nat) : Int) := by rw [hz]; simp [cutN, List.drop_drop]
  have v1 : (bodyQ l).y0 = ((beNat ((r.drop 2).take 2) : Nat) : Int) := by rw [hz]; simp [cutN, List.drop_drop]
  have v2 : (bodyQ l).x1 = ((beNat ((r.drop 4).take 2) : Nat) : Int) := by rw [hz]; simp [cutN, List.drop_drop]
  have v3 : (bodyQ l).y1 = ((beNat ((r.drop 6).take 2) : Nat) : Int) := by rw [hz]; simp [cutN, List.drop_drop]
  have hv : valsR (bodyQ l) = [(bodyQ l).x0, (bodyQ l).y0, (bodyQ l).x1, (bodyQ l).y1] := by unfold valsR; simp [ho]
  have hC : rbC (bodyQ l) = (((((a ++ (r.take 2)) ++ ((r.drop 2).take 2)) ++ ((r.drop 4).take 2)) ++ ((r.drop 6).take 2)), true) := by
    unfold rbC
    rw [hB, hv, ho]
    show pF (pF (pF (pF ((a, true)) ((bodyQ l).x0, 2)) ((bodyQ l).y0, 2)) ((bodyQ l).x1, 2)) ((bodyQ l).y1, 2) = _
    rw [v0, pF_nat _ _ _ (be_take_lt _ _), toBE_take 2 r (by omega), v1, pF_nat _ _ _ (be_take_lt _ _), toBE_take 2 (r.drop 2) (by rw [List.length_drop]; omega), v2, pF_nat _ _ _ (be_take_lt _ _), toBE_take 2 (r.drop 4) (by rw [List.length_drop]; omega), v3, pF_nat _ _ _ (be_take_lt _ _), toBE_take 2 (r.drop 6) (by rw [List.length_drop]; omega)]
  refine ⟨?_, by rw [hC]⟩
  unfold rbL rbD rbLong
  rw [hC, ho]
  simp only [reduceIte, Int.reduceEq, or_false, List.append_nil]
  have hj : ((((r.take 2) ++ ((r.drop 2).take 2)) ++ ((r.drop 4).take 2)) ++ ((r.drop 6).take 2)) = r := by rw [← List.take_add, ← List.take_add, ← List.take_add, List.take_of_length_le (by omega)]
  have e := hl.trans (congrArg (a ++ ·) hj.symm)
  rw [e]
  try simp only [List.append_assoc]

theorem rb_14 (l : List UInt8) (h : Good l) (hop : (headR l).op = 14) : rbL (bodyQ l) = l ∧ (rbC (bodyQ l)).2 = true := by
  have hh := withR_head (headR l) (cutN (l.drop 13) (widths (headR l).op)) (if (headR l).op = 3 then l.drop 13 else [])
  have hB := rb_ahead h.len (bodyQ l) hh.op hh.tenant hh.user hh.secret hh.m
  have ho : (bodyQ l).op = 14 := by rw [bodyQ_op, hop]
  have hr : (l.drop 13).length = 4 := by
    have h1 := h.lo
    have h2 := h.hi (by rw [hop]; decide)
    have h3 : fieldsN 14 = 4 := rfl
    rw [hop, h3] at h1 h2
    rw [List.length_drop]
    omega
  have hz := show bodyQ l = withR (headR l) (cutN (l.drop 13) (widths (headR l).op)) (if (headR l).op = 3 then l.drop 13 else []) from rfl
  simp only [withR, hop, widths] at hz
  simp only [reduceIte, Int.reduceEq] at hz
  obtain ⟨a, ha⟩ : ∃ a, l.take 13 = a := ⟨_, rfl⟩
  obtain ⟨r, hrr⟩ : ∃ r, l.drop 13 = r := ⟨_, rfl⟩
  have hl : l = a ++ r := by rw [← ha, ← hrr, List.take_append_drop]
  rw [ha] at hB
  rw [hrr] at hr hz
  have v0 : (bodyQ l).ax = ((beNat (r.take 2) : Nat) : Int) := by rw [hz]; simp [cutN]
  have v1 : (bodyQ l).ay = ((beNat ((r.drop 2).take 2) : Nat) : Int) := by rw [hz]; simp [cutN]
  have hv : valsR (bodyQ l) = [(bodyQ l).ax, (bodyQ l).ay] := by unfold valsR; simp [ho]
  have hC : rbC (bodyQ l) = (((a ++ (r.take 2)) ++ ((r.drop 2).take 2)), true) := by
    unfold rbC
    rw [hB, hv, ho]
    show pF (pF ((a, true)) ((bodyQ l).ax, 2)) ((bodyQ l).ay, 2) = _
    rw [v0, pF_nat _ _ _ (be_take_lt _ _), toBE_take 2 r (by omega), v1, pF_nat _ _ _ (be_take_lt _ _), toBE_take 2 (r.drop 2) (by rw [List.length_drop]; omega)]
  refine ⟨?_, by rw [hC]⟩
  unfold rbL rbD rbLong
  rw [hC, ho]
  simp only [reduceIte, Int.reduceEq, or_false, List.append_nil]
  have hj : ((r.take 2) ++ ((r.drop 2).take 2)) = r := by rw [← List.take_add, List.take_of_length_le (by omega)]
  have e := hl.trans (congrArg (a ++ ·) hj.symm)
  rw [e]
  try simp only [List.append_assoc]

theorem rb_15 (l : List UInt8) (h : Good l) (hop : (headR l).op = 15) : rbL (bodyQ l) = l ∧ (rbC (bodyQ l)).2 = true := by
  have hh := withR_head (headR l) (cutN (l.drop 13) (widths (headR l).op)) (if (headR l).op = 3 then l.drop 13 else [])
  have hB := rb_ahead h.len (bodyQ l) hh.op hh.tenant hh.user hh.secret hh.m
  have ho : (bodyQ l).op = 15 := by rw [bodyQ_op, hop]
  have hr : (l.drop 13).length = 8 := by
    have h1 := h.lo
    have h2 := h.hi (by rw [hop]; decide)
    have h3 : fieldsN 15 = 8 := rfl
    rw [hop, h3] at h1 h2
    rw [List.length_drop]
    omega
  have hz := show bodyQ l = withR (headR l) (cutN (l.drop 13) (widths (headR l).op)) (if (headR l).op = 3 then l.drop 13 else []) from rfl
  simp only [withR, hop, widths] at hz
  simp only [reduceIte, Int.reduceEq] at hz
  obtain ⟨a, ha⟩ : ∃ a, l.take 13 = a := ⟨_, rfl⟩
  obtain ⟨r, hrr⟩ : ∃ r, l.drop 13 = r := ⟨_, rfl⟩
  have hl : l = a ++ r := by rw [← ha, ← hrr, List.take_append_drop]
  rw [ha] at hB
  rw [hrr] at hr hz
  have v0 : (bodyQ l).x0 = ((beNat (r.take 2) : Nat) : Int) := by rw [hz]; simp [cutN, List.drop_drop]
  have v1 : (bodyQ l).y0 = ((beNat ((r.drop 2).take 2) : Nat) : Int) := by rw [hz]; simp [cutN, List.drop_drop]
  have v2 : (bodyQ l).x1 = ((beNat ((r.drop 4).take 2) : Nat) : Int) := by rw [hz]; simp [cutN, List.drop_drop]
  have v3 : (bodyQ l).y1 = ((beNat ((r.drop 6).take 2) : Nat) : Int) := by rw [hz]; simp [cutN, List.drop_drop]
  have hv : valsR (bodyQ l) = [(bodyQ l).x0, (bodyQ l).y0, (bodyQ l).x1, (bodyQ l).y1] := by unfold valsR; simp [ho]
  have hC : rbC (bodyQ l) = (((((a ++ (r.take 2)) ++ ((r.drop 2).take 2)) ++ ((r.drop 4).take 2)) ++ ((r.drop 6).take 2)), true) := by
    unfold rbC
    rw [hB, hv, ho]
    show pF (pF (pF (pF ((a, true)) ((bodyQ l).x0, 2)) ((bodyQ l).y0, 2)) ((bodyQ l).x1, 2)) ((bodyQ l).y1, 2) = _
    rw [v0, pF_nat _ _ _ (be_take_lt _ _), toBE_take 2 r (by omega), v1, pF_nat _ _ _ (be_take_lt _ _), toBE_take 2 (r.drop 2) (by rw [List.length_drop]; omega), v2, pF_nat _ _ _ (be_take_lt _ _), toBE_take 2 (r.drop 4) (by rw [List.length_drop]; omega), v3, pF_nat _ _ _ (be_take_lt _ _), toBE_take 2 (r.drop 6) (by rw [List.length_drop]; omega)]
  refine ⟨?_, by rw [hC]⟩
  unfold rbL rbD rbLong
  rw [hC, ho]
  simp only [reduceIte, Int.reduceEq, or_false, List.append_nil]
  have hj : ((((r.take 2) ++ ((r.drop 2).take 2)) ++ ((r.drop 4).take 2)) ++ ((r.drop 6).take 2)) = r := by rw [← List.take_add, ← List.take_add, ← List.take_add, List.take_of_length_le (by omega)]
  have e := hl.trans (congrArg (a ++ ·) hj.symm)
  rw [e]
  try simp only [List.append_assoc]

theorem rb_16 (l : List UInt8) (h : Good l) (hop : (headR l).op = 16) : rbL (bodyQ l) = l ∧ (rbC (bodyQ l)).2 = true := by
  have hh := withR_head (headR l) (cutN (l.drop 13) (widths (headR l).op)) (if (headR l).op = 3 then l.drop 13 else [])
  have hB := rb_ahead h.len (bodyQ l) hh.op hh.tenant hh.user hh.secret hh.m
  have ho : (bodyQ l).op = 16 := by rw [bodyQ_op, hop]
  have hr : (l.drop 13).length = 4 := by
    have h1 := h.lo
    have h2 := h.hi (by rw [hop]; decide)
    have h3 : fieldsN 16 = 4 := rfl
    rw [hop, h3] at h1 h2
    rw [List.length_drop]
    omega
  have hz := show bodyQ l = withR (headR l) (cutN (l.drop 13) (widths (headR l).op)) (if (headR l).op = 3 then l.drop 13 else []) from rfl
  simp only [withR, hop, widths] at hz
  simp only [reduceIte, Int.reduceEq] at hz
  obtain ⟨a, ha⟩ : ∃ a, l.take 13 = a := ⟨_, rfl⟩
  obtain ⟨r, hrr⟩ : ∃ r, l.drop 13 = r := ⟨_, rfl⟩
  have hl : l = a ++ r := by rw [← ha, ← hrr, List.take_append_drop]
  rw [ha] at hB
  rw [hrr] at hr hz
  have v0 : (bodyQ l).ax = ((beNat (r.take 2) : Nat) : Int) := by rw [hz]; simp [cutN]
  have v1 : (bodyQ l).ay = ((beNat ((r.drop 2).take 2) : Nat) : Int) := by rw [hz]; simp [cutN]
  have hv : valsR (bodyQ l) = [(bodyQ l).ax, (bodyQ l).ay] := by unfold valsR; simp [ho]
  have hC : rbC (bodyQ l) = (((a ++ (r.take 2)) ++ ((r.drop 2).take 2)), true) := by
    unfold rbC
    rw [hB, hv, ho]
    show pF (pF ((a, true)) ((bodyQ l).ax, 2)) ((bodyQ l).ay, 2) = _
    rw [v0, pF_nat _ _ _ (be_take_lt _ _), toBE_take 2 r (by omega), v1, pF_nat _ _ _ (be_take_lt _ _), toBE_take 2 (r.drop 2) (by rw [List.length_drop]; omega)]
  refine ⟨?_, by rw [hC]⟩
  unfold rbL rbD rbLong
  rw [hC, ho]
  simp only [reduceIte, Int.reduceEq, or_false, List.append_nil]
  have hj : ((r.take 2) ++ ((r.drop 2).take 2)) = r := by rw [← List.take_add, List.take_of_length_le (by omega)]
  have e := hl.trans (congrArg (a ++ ·) hj.symm)
  rw [e]
  try simp only [List.append_assoc]

theorem rb_17 (l : List UInt8) (h : Good l) (hop : (headR l).op = 17) : rbL (bodyQ l) = l ∧ (rbC (bodyQ l)).2 = true := by
  have hh := withR_head (headR l) (cutN (l.drop 13) (widths (headR l).op)) (if (headR l).op = 3 then l.drop 13 else [])
  have hB := rb_ahead h.len (bodyQ l) hh.op hh.tenant hh.user hh.secret hh.m
  have ho : (bodyQ l).op = 17 := by rw [bodyQ_op, hop]
  have hr : (l.drop 13).length = 2 := by
    have h1 := h.lo
    have h2 := h.hi (by rw [hop]; decide)
    have h3 : fieldsN 17 = 2 := rfl
    rw [hop, h3] at h1 h2
    rw [List.length_drop]
    omega
  have hz := show bodyQ l = withR (headR l) (cutN (l.drop 13) (widths (headR l).op)) (if (headR l).op = 3 then l.drop 13 else []) from rfl
  simp only [withR, hop, widths] at hz
  simp only [reduceIte, Int.reduceEq] at hz
  obtain ⟨a, ha⟩ : ∃ a, l.take 13 = a := ⟨_, rfl⟩
  obtain ⟨r, hrr⟩ : ∃ r, l.drop 13 = r := ⟨_, rfl⟩
  have hl : l = a ++ r := by rw [← ha, ← hrr, List.take_append_drop]
  rw [ha] at hB
  rw [hrr] at hr hz
  have v0 : (bodyQ l).frm = ((beNat (r.take 2) : Nat) : Int) := by rw [hz]; simp [cutN]
  have hv : valsR (bodyQ l) = [(bodyQ l).frm] := by unfold valsR; simp [ho]
  have hC : rbC (bodyQ l) = ((a ++ (r.take 2)), true) := by
    unfold rbC
    rw [hB, hv, ho]
    show pF ((a, true)) ((bodyQ l).frm, 2) = _
    rw [v0, pF_nat _ _ _ (be_take_lt _ _), toBE_take 2 r (by omega)]
  refine ⟨?_, by rw [hC]⟩
  unfold rbL rbD rbLong
  rw [hC, ho]
  simp only [reduceIte, Int.reduceEq, or_false, List.append_nil]
  have hj : (r.take 2) = r := by rw [List.take_of_length_le (by omega)]
  have e := hl.trans (congrArg (a ++ ·) hj.symm)
  rw [e]
  try simp only [List.append_assoc]

theorem rb_18 (l : List UInt8) (h : Good l) (hop : (headR l).op = 18) : rbL (bodyQ l) = l ∧ (rbC (bodyQ l)).2 = true := by
  have hh := withR_head (headR l) (cutN (l.drop 13) (widths (headR l).op)) (if (headR l).op = 3 then l.drop 13 else [])
  have hB := rb_ahead h.len (bodyQ l) hh.op hh.tenant hh.user hh.secret hh.m
  have ho : (bodyQ l).op = 18 := by rw [bodyQ_op, hop]
  have hr : (l.drop 13).length = 0 := by
    have h1 := h.lo
    have h2 := h.hi (by rw [hop]; decide)
    have h3 : fieldsN 18 = 0 := rfl
    rw [hop, h3] at h1 h2
    rw [List.length_drop]
    omega
  have hz := show bodyQ l = withR (headR l) (cutN (l.drop 13) (widths (headR l).op)) (if (headR l).op = 3 then l.drop 13 else []) from rfl
  simp only [withR, hop, widths] at hz
  simp only [reduceIte, Int.reduceEq] at hz
  obtain ⟨a, ha⟩ : ∃ a, l.take 13 = a := ⟨_, rfl⟩
  obtain ⟨r, hrr⟩ : ∃ r, l.drop 13 = r := ⟨_, rfl⟩
  have hl : l = a ++ r := by rw [← ha, ← hrr, List.take_append_drop]
  rw [ha] at hB
  rw [hrr] at hr
  have hv : valsR (bodyQ l) = [] := by unfold valsR; simp [ho]
  have hC : rbC (bodyQ l) = (a, true) := by
    unfold rbC
    rw [hB, hv, ho]
    show (a, true) = _
    rfl
  refine ⟨?_, by rw [hC]⟩
  unfold rbL rbD rbLong
  rw [hC, ho]
  simp only [reduceIte, Int.reduceEq, or_false, List.append_nil]
  have hr0 : r = [] := List.eq_nil_of_length_eq_zero hr
  rw [hl, hr0, List.append_nil]
theorem rb_19 (l : List UInt8) (h : Good l) (hop : (headR l).op = 19) : rbL (bodyQ l) = l ∧ (rbC (bodyQ l)).2 = true := by
  have hh := withR_head (headR l) (cutN (l.drop 13) (widths (headR l).op)) (if (headR l).op = 3 then l.drop 13 else [])
  have hB := rb_ahead h.len (bodyQ l) hh.op hh.tenant hh.user hh.secret hh.m
  have ho : (bodyQ l).op = 19 := by rw [bodyQ_op, hop]
  have hr : (l.drop 13).length = 4 := by
    have h1 := h.lo
    have h2 := h.hi (by rw [hop]; decide)
    have h3 : fieldsN 19 = 4 := rfl
    rw [hop, h3] at h1 h2
    rw [List.length_drop]
    omega
  have hz := show bodyQ l = withR (headR l) (cutN (l.drop 13) (widths (headR l).op)) (if (headR l).op = 3 then l.drop 13 else []) from rfl
  simp only [withR, hop, widths] at hz
  simp only [reduceIte, Int.reduceEq] at hz
  obtain ⟨a, ha⟩ : ∃ a, l.take 13 = a := ⟨_, rfl⟩
  obtain ⟨r, hrr⟩ : ∃ r, l.drop 13 = r := ⟨_, rfl⟩
  have hl : l = a ++ r := by rw [← ha, ← hrr, List.take_append_drop]
  rw [ha] at hB
  rw [hrr] at hr hz
  have v0 : (bodyQ l).whom = ((beNat (r.take 2) : Nat) : Int) := by rw [hz]; simp [cutN]
  have v1 : (bodyQ l).quota = ((beNat ((r.drop 2).take 2) : Nat) : Int) := by rw [hz]; simp [cutN]
  have hv : valsR (bodyQ l) = [(bodyQ l).whom, (bodyQ l).quota] := by unfold valsR; simp [ho]
  have hC : rbC (bodyQ l) = (((a ++ (r.take 2)) ++ ((r.drop 2).take 2)), true) := by
    unfold rbC
    rw [hB, hv, ho]
    show pF (pF ((a, true)) ((bodyQ l).whom, 2)) ((bodyQ l).quota, 2) = _
    rw [v0, pF_nat _ _ _ (be_take_lt _ _), toBE_take 2 r (by omega), v1, pF_nat _ _ _ (be_take_lt _ _), toBE_take 2 (r.drop 2) (by rw [List.length_drop]; omega)]
  refine ⟨?_, by rw [hC]⟩
  unfold rbL rbD rbLong
  rw [hC, ho]
  simp only [reduceIte, Int.reduceEq, or_false, List.append_nil]
  have hj : ((r.take 2) ++ ((r.drop 2).take 2)) = r := by rw [← List.take_add, List.take_of_length_le (by omega)]
  have e := hl.trans (congrArg (a ++ ·) hj.symm)
  rw [e]
  try simp only [List.append_assoc]

theorem good_rb {l : List UInt8} (h : Good l) : rbL (bodyQ l) = l ∧ (rbC (bodyQ l)).2 = true := by
  rcases isOp_cases h.op with e | e | e | e | e | e | e | e | e | e | e | e | e | e | e | e | e | e | e
  · exact rb_1 l h e
  · exact rb_2 l h e
  · exact rb_3 l h e
  · exact rb_4 l h e
  · exact rb_5 l h e
  · exact rb_6 l h e
  · exact rb_7 l h e
  · exact rb_8 l h e
  · exact rb_9 l h e
  · exact rb_10 l h e
  · exact rb_11 l h e
  · exact rb_12 l h e
  · exact rb_13 l h e
  · exact rb_14 l h e
  · exact rb_15 l h e
  · exact rb_16 l h e
  · exact rb_17 l h e
  · exact rb_18 l h e
  · exact rb_19 l h e
/-- The program writes what the reference writes. -/
theorem enc_rb (q : Req) : encOk q = rbOk q ∧ (encOk q = true → encL q = rbL q) := by
  have h1 : encOk q = true → rbOk q = true ∧ encL q = rbL q := fun h => by
    obtain ⟨hg, hq⟩ := enc_good h
    obtain ⟨h2, h3⟩ := good_rb hg
    rw [← hq] at h2 h3
    have hd : rdec (encL q) = (q, 0) := (rdec_iff _ _).2 ⟨hg, hq⟩
    refine ⟨?_, h2.symm⟩
    unfold rbOk
    rw [h2, hd, h3]
    have ho : isOp q.op = true := by rw [hq, bodyQ_op]; exact hg.op
    have hm : q.m ≤ 64 := by
      have hh := (withR_head (headR (encL q)) (cutN ((encL q).drop 13) (widths (headR (encL q)).op)) (if (headR (encL q)).op = 3 then (encL q).drop 13 else [])).m
      have := hg.m
      rw [hq]
      exact hh ▸ this
    have ht : q.txt.length ≤ 512 := by
      have hx : (if (headR (encL q)).op = 3 then (encL q).drop 13 else []).length ≤ 512 := by
        split
        · rw [List.length_drop]; exact hg.top
        · simp
      have := withR_txt (q := headR (encL q)) (l := cutN ((encL q).drop 13) (widths (headR (encL q)).op)) (by simp [headR, zeroR]) hx
      rw [hq]
      exact this
    rw [ho, decide_eq_true hm, decide_eq_true ht]
    simp [reqEq]
  have h2 : rbOk q = true → encOk q = true := fun h => by
    unfold rbOk reqEq at h
    simp only [Bool.and_eq_true, decide_eq_true_eq] at h
    obtain ⟨-, -, -, -, e1, e2⟩ := h
    have hd : rdec (rbL q) = (q, 0) := Prod.ext e1 e2
    obtain ⟨hg, hq⟩ := (rdec_iff _ _).1 hd
    have := (good_encE hg).1
    rw [← hq] at this
    exact this
  refine ⟨?_, fun h => (h1 h).2⟩
  cases ha : encOk q with
  | true => exact (h1 ha).1.symm
  | false =>
    cases hb : rbOk q with
    | true => rw [h2 hb] at ha; cases ha
    | false => rfl
end Go.Proofs.YtmgpfkoomlgcoaaGreat
