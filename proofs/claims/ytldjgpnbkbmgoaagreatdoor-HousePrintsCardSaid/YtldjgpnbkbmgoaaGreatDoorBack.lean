/-
  The plain laws of what is encoded: it is decoded as it was; what is decoded is encoded as it stood. Conditions: none.
  PRINTED BY genback.py.
-/
import Derived.Test.YtldjgpnbkbmgoaaGreatDoorPlain
namespace Go.Proofs.YtldjgpnbkbmgoaaGreatDoor
open Go.RowKit Go.Lib

/-- What stands ahead is the same. -/
structure SameHead (q z : Req) : Prop where
  op : z.op = q.op
  tenant : z.tenant = q.tenant
  user : z.user = q.user
  secret : z.secret = q.secret
  m : z.m = q.m
theorem ite_R {p : Req → Prop} {c : Prop} [Decidable c] {a b : Req} (h1 : p a) (h2 : p b) : p (if c then a else b) := by
  split
  · exact h1
  · exact h2
theorem withR_head (q : Req) (l : List Nat) (t : List UInt8) : SameHead q (withR q l t) := by
  unfold withR
  repeat' refine ite_R (p := SameHead q) ?_ ?_
  all_goals exact ⟨rfl, rfl, rfl, rfl, rfl⟩
/-- What the reference reads behind the first bytes. -/
def bodyQ (l : List UInt8) : Req := withR (headR l) (cutN (l.drop 13) (widths (headR l).op)) (if (headR l).op = 3 then l.drop 13 else [])
theorem bodyQ_op (l : List UInt8) : (bodyQ l).op = (headR l).op := (withR_head _ _ _).op

/-- What it means that bytes are a request's. -/
structure Good (l : List UInt8) : Prop where
  len : 13 ≤ l.length
  op : isOp (headR l).op = true
  m : (headR l).m ≤ 64
  lo : fieldsN (headR l).op ≤ l.length - 13
  hi : (headR l).op ≠ 3 → l.length - 13 ≤ fieldsN (headR l).op
  top : l.length - 13 ≤ 512
  rng : rangeB (bodyQ l) = true
theorem rdec_iff (l : List UInt8) (q : Req) : rdec l = (q, 0) ↔ Good l ∧ q = bodyQ l := by
  have hne : ∀ (n : Int), n ≠ 0 → (zeroR 0, n) ≠ (q, 0) := fun n hn e => hn (congrArg Prod.snd e)
  have hb : (withR (headR l) (cutN (l.drop 13) (widths (headR l).op)) (if (headR l).op = 3 then l.drop 13 else [])) = bodyQ l := rfl
  unfold rdec rdec2
  rw [hb]
  by_cases h1 : l.length < 13
  · rw [if_pos h1]
    exact ⟨fun e => (hne _ (by decide) e).elim, fun e => absurd e.1.len (by omega)⟩
  rw [if_neg h1]
  by_cases h2 : isOp (headR l).op = false
  · rw [if_pos h2]
    exact ⟨fun e => (hne _ (by decide) e).elim, fun e => by rw [e.1.op] at h2; cases h2⟩
  rw [if_neg h2]
  by_cases h3 : 64 < (headR l).m
  · rw [if_pos h3]
    exact ⟨fun e => (hne _ (by decide) e).elim, fun e => absurd e.1.m (by omega)⟩
  rw [if_neg h3, List.length_drop]
  by_cases h4 : l.length - 13 < fieldsN (headR l).op
  · rw [if_pos h4]
    exact ⟨fun e => (hne _ (by decide) e).elim, fun e => absurd e.1.lo (by omega)⟩
  rw [if_neg h4]
  by_cases h5 : ((headR l).op ≠ 3 ∧ fieldsN (headR l).op < l.length - 13) ∨ 512 < l.length - 13
  · rw [if_pos h5]
    refine ⟨fun e => (hne _ (by decide) e).elim, fun e => ?_⟩
    rcases h5 with ⟨a, b⟩ | b
    · exact absurd (e.1.hi a) (by omega)
    · exact absurd e.1.top (by omega)
  rw [if_neg h5]
  by_cases h6 : rangeB (bodyQ l) = false
  · rw [if_pos h6]
    exact ⟨fun e => (hne _ (by decide) e).elim, fun e => by rw [e.1.rng] at h6; cases h6⟩
  rw [if_neg h6]
  rw [Bool.not_eq_false] at h2 h6
  constructor
  · intro e
    exact ⟨⟨by omega, h2, by omega, by omega, fun h => Nat.le_of_not_lt fun hlt => h5 (.inl ⟨h, hlt⟩), Nat.le_of_not_lt fun hlt => h5 (.inr hlt), h6⟩, (congrArg Prod.fst e).symm⟩
  · rintro ⟨-, rfl⟩
    rfl

theorem fields3 : fieldsN 3 = 0 := rfl
/-- How long it is. -/
theorem Good.length {l : List UInt8} (h : Good l) : l.length = 13 + (if (bodyQ l).op = 3 then (bodyQ l).txt.length else fieldsN (bodyQ l).op) := by
  have h1 := h.len
  have h2 := h.lo
  rw [bodyQ_op]
  by_cases h3 : (headR l).op = 3
  · rw [if_pos h3]
    have ht : (bodyQ l).txt = l.drop 13 := by
      unfold bodyQ withR
      simp [h3]
    rw [ht, List.length_drop]
    omega
  · rw [if_neg h3]
    have := h.hi h3
    omega

theorem byN_take (l : List UInt8) {i n : Nat} (h : i < n) : byN (l.take n) i = byN l i := by
  unfold byN
  rw [List.getD_eq_getElem?_getD, List.getD_eq_getElem?_getD, List.getElem?_take, if_pos h]
theorem headR_congr {l m : List UInt8} (h : l.take 13 = m.take 13) : headR l = headR m := by
  have e : ∀ l : List UInt8, headR l = headR (l.take 13) := fun l => by
    unfold headR
    rw [byN_take l (by omega), byN_take l (by omega), byN_take l (by omega), byN_take l (by omega), byN_take l (by omega)]
    have : ((l.take 13).drop 4).take 8 = (l.drop 4).take 8 := by
      rw [List.drop_take, List.take_take]
      rfl
    rw [this]
  rw [e l, e m, h]
/-- A byte less is refused, -/
theorem rdec_less {l : List UInt8} (h : Good l) (h3 : (headR l).op ≠ 3) : (rdec (l.take (l.length - 1))).2 = 50 := by
  have h1 := h.len
  have hn := h.hi h3
  have hlo := h.lo
  unfold rdec
  have hlen : (l.take (l.length - 1)).length = l.length - 1 := by simp
  by_cases hs : (l.take (l.length - 1)).length < 13
  · rw [if_pos hs]
  · rw [if_neg hs]
    have hh : headR (l.take (l.length - 1)) = headR l := headR_congr (by rw [List.take_take]; congr 1; omega)
    rw [hh]
    have hop' : ¬ isOp (headR l).op = false := by rw [h.op]; decide
    have hm' : ¬ 64 < (headR l).m := by have := h.m; omega
    have hl' : ((l.take (l.length - 1)).drop 13).length < fieldsN (headR l).op := by rw [List.length_drop, hlen]; omega
    unfold rdec2
    rw [if_neg hop', if_neg hm', if_pos hl']
/-- and one more. -/
theorem rdec_more {l : List UInt8} (h : Good l) (h3 : (headR l).op ≠ 3) (x : UInt8) : (rdec (l ++ [x])).2 = 2 := by
  have h1 := h.len
  have hlo := h.lo
  unfold rdec
  have hlen : (l ++ [x]).length = l.length + 1 := by simp
  rw [if_neg (by rw [hlen]; omega)]
  have hh : headR (l ++ [x]) = headR l := headR_congr (by rw [List.take_append_of_le_length h1])
  rw [hh]
  have hop' : ¬ isOp (headR l).op = false := by rw [h.op]; decide
  have hm' : ¬ 64 < (headR l).m := by have := h.m; omega
  have hd : ((l ++ [x]).drop 13).length = l.length - 13 + 1 := by rw [List.length_drop, hlen]; omega
  unfold rdec2
  rw [if_neg hop', if_neg hm', if_neg (by rw [hd]; omega), if_pos (.inl ⟨h3, by rw [hd]; omega⟩)]

theorem nS_w {off : Nat} (L : Lens off) (k : Nat) (most : Int) (v : Nat) {a : List UInt8} {n : Int} {z : Req} (hg : L.get z = (v : Int)) (hv : (v : Int) ≤ most) : nS L k most (⟨0, a, n, false⟩, z) = (⟨0, a ++ toBE k v, n + k, false⟩, z) := by
  unfold nS
  simp only [if_true, hg]
  rw [if_neg (by omega)]
  rfl
theorem lS_w {off : Nat} (L : LensU off) (v : Nat) {a : List UInt8} {n : Int} {z : Req} (hg : L.get z = v) : lS L (⟨0, a, n, false⟩, z) = (⟨0, a ++ toBE 8 v, n + 8, false⟩, z) := by
  unfold lS
  simp only [if_true, hg]
theorem toBE_take (k : Nat) (l : List UInt8) (h : k ≤ l.length) : toBE k (beNat (l.take k)) = l.take k := toBE_beNat k _ (by simp; omega)

theorem ahead_write {l : List UInt8} (h : 13 ≤ l.length) (hm : (headR l).m ≤ 64) (z : Req) (h0 : z.op = (headR l).op) (h1 : z.tenant = (headR l).tenant) (h2 : z.user = (headR l).user) (h3 : z.secret = (headR l).secret) (h4 : z.m = (headR l).m) :
    aheadS (⟨0, [], 0, false⟩, z) = (⟨0, l.take 13, 13, false⟩, z) := by
  obtain ⟨b0, b1, b2, b3, b4, b5, b6, b7, b8, b9, b10, b11, b12, r, rfl⟩ := split13 (Nat.not_lt.2 h)
  have u0 : b0.toNat < 256 := b0.toNat_lt
  have u1 : b1.toNat < 256 := b1.toNat_lt
  have u2 : b2.toNat < 256 := b2.toNat_lt
  have u3 : b3.toNat < 256 := b3.toNat_lt
  have e0 : z.op = ((beNat [b0] : Nat) : Int) := by rw [h0, beNat_one]; rfl
  have e1 : z.tenant = ((beNat [b1] : Nat) : Int) := by rw [h1, beNat_one]; rfl
  have e2 : z.user = ((beNat [b2, b3] : Nat) : Int) := by rw [h2, beNat_cons2]; simp [headR, byN]
  have e3 : z.secret = beNat [b4, b5, b6, b7, b8, b9, b10, b11] := by rw [h3]; rfl
  have e4 : z.m = ((beNat [b12] : Nat) : Int) := by rw [h4, beNat_one]; rfl
  have f0 : ((beNat [b0] : Nat) : Int) ≤ 255 := by rw [beNat_one]; omega
  have f1 : ((beNat [b1] : Nat) : Int) ≤ 255 := by rw [beNat_one]; omega
  have f2 : ((beNat [b2, b3] : Nat) : Int) ≤ 65535 := by rw [beNat_cons2]; omega
  have f4 : ((beNat [b12] : Nat) : Int) ≤ 64 := by rw [← e4, h4]; exact hm
  unfold aheadS
  rw [nS_w LOp 1 255 _ e0 f0, nS_w LTenant 1 255 _ e1 f1, nS_w LUser 2 65535 _ e2 f2, lS_w LSecret _ e3, nS_w LM 1 64 _ e4 f4]
  rw [toBE_beNat 1 [b0] rfl, toBE_beNat 1 [b1] rfl, toBE_beNat 2 [b2, b3] rfl, toBE_beNat 8 [b4, b5, b6, b7, b8, b9, b10, b11] rfl, toBE_beNat 1 [b12] rfl]
  rfl

theorem write_1 (q : Req) (hq : q.op = 1) (r : List UInt8) (hr : r.length = 6) (h1 : ((beNat ((r.drop 2).take 1) : Nat) : Int) ≤ 7) (h2 : ((beNat ((r.drop 3).take 1) : Nat) : Int) ≤ 7) (a : List UInt8) (z : Req) (hz : z = { q with whom := (beNat (r.take 2) : Nat), role := (beNat ((r.drop 2).take 1) : Nat), tier := (beNat ((r.drop 3).take 1) : Nat), quota := (beNat ((r.drop 4).take 2) : Nat) }) : (fieldsS (⟨0, a, 13, false⟩, z)).1.bad = false ∧ (fieldsS (⟨0, a, 13, false⟩, z)).1.l = a ++ r := by
  have ho : z.op = 1 := by rw [hz]; exact hq

  have e1 : ruleS (⟨0, a, 13, false⟩, z) = (⟨0, ((((a ++ toBE 2 (beNat (r.take 2))) ++ toBE 1 (beNat ((r.drop 2).take 1))) ++ toBE 1 (beNat ((r.drop 3).take 1))) ++ toBE 2 (beNat ((r.drop 4).take 2))), 19, false⟩, z) := by
    unfold ruleS
    simp only [ho]
    simp only [if_true, reduceIte, Int.reduceEq]
    rw [nS_w LWhom 2 65535 (beNat (r.take 2)) (by rw [hz]; rfl) (by have := be2_le r; omega), nS_w LRole 1 7 (beNat ((r.drop 2).take 1)) (by rw [hz]; rfl) h1, nS_w LTier 1 7 (beNat ((r.drop 3).take 1)) (by rw [hz]; rfl) h2, nS_w LQuota 2 65535 (beNat ((r.drop 4).take 2)) (by rw [hz]; rfl) (by have := be2_le (r.drop 4); omega)]
    rfl
  have hF : fieldsS (⟨0, a, 13, false⟩, z) = (⟨0, ((((a ++ toBE 2 (beNat (r.take 2))) ++ toBE 1 (beNat ((r.drop 2).take 1))) ++ toBE 1 (beNat ((r.drop 3).take 1))) ++ toBE 2 (beNat ((r.drop 4).take 2))), 19, false⟩, z) := by
    unfold fieldsS
    rw [e1]
    unfold ownS
    simp [ho]
  rw [hF]
  refine ⟨rfl, ?_⟩
  show ((((a ++ toBE 2 (beNat (r.take 2))) ++ toBE 1 (beNat ((r.drop 2).take 1))) ++ toBE 1 (beNat ((r.drop 3).take 1))) ++ toBE 2 (beNat ((r.drop 4).take 2))) = a ++ r
  rw [toBE_take 2 r (by omega), toBE_take 1 (r.drop 2) (by rw [List.length_drop]; omega), toBE_take 1 (r.drop 3) (by rw [List.length_drop]; omega), toBE_take 2 (r.drop 4) (by rw [List.length_drop]; omega)]
  have hj : (((r.take 2) ++ ((r.drop 2).take 1)) ++ ((r.drop 3).take 1)) ++ ((r.drop 4).take 2) = r := by rw [← List.take_add, ← List.take_add, ← List.take_add, List.take_of_length_le (by omega)]
  refine Eq.trans ?_ (congrArg (a ++ ·) hj)
  simp only [List.append_assoc]

theorem write_2 (q : Req) (hq : q.op = 2) (r : List UInt8) (hr : r.length = 2)  (a : List UInt8) (z : Req) (hz : z = { q with whom := (beNat (r.take 2) : Nat) }) : (fieldsS (⟨0, a, 13, false⟩, z)).1.bad = false ∧ (fieldsS (⟨0, a, 13, false⟩, z)).1.l = a ++ r := by
  have ho : z.op = 2 := by rw [hz]; exact hq

  have e1 : ruleS (⟨0, a, 13, false⟩, z) = (⟨0, (a ++ toBE 2 (beNat (r.take 2))), 15, false⟩, z) := by
    unfold ruleS
    simp only [ho]
    simp only [if_true, reduceIte, Int.reduceEq]
    rw [nS_w LWhom 2 65535 (beNat (r.take 2)) (by rw [hz]; rfl) (by have := be2_le r; omega)]
    rfl
  have hF : fieldsS (⟨0, a, 13, false⟩, z) = (⟨0, (a ++ toBE 2 (beNat (r.take 2))), 15, false⟩, z) := by
    unfold fieldsS
    rw [e1]
    unfold ownS
    simp [ho]
  rw [hF]
  refine ⟨rfl, ?_⟩
  show (a ++ toBE 2 (beNat (r.take 2))) = a ++ r
  rw [toBE_take 2 r (by omega)]
  have hj : (r.take 2) = r := by rw [List.take_of_length_le (by omega)]
  refine Eq.trans ?_ (congrArg (a ++ ·) hj)
  simp only

theorem write_3 (q : Req) (hq : q.op = 3) (r : List UInt8) (hr : r.length ≤ 512)  (a : List UInt8) (z : Req) (hz : z = { q with txt := r }) : (fieldsS (⟨0, a, 13, false⟩, z)).1.bad = false ∧ (fieldsS (⟨0, a, 13, false⟩, z)).1.l = a ++ r := by
  have ho : z.op = 3 := by rw [hz]; exact hq

  have e1 : ruleS (⟨0, a, 13, false⟩, z) = (⟨0, a ++ r, 13, false⟩, z) := by
    unfold ruleS
    have ht : z.txt = r := by rw [hz]
    simp [ho, tS, ht]
    exact hr
  have hF : fieldsS (⟨0, a, 13, false⟩, z) = (⟨0, a ++ r, 13, false⟩, z) := by
    unfold fieldsS
    rw [e1]
    unfold ownS
    simp [ho]
  rw [hF]
  exact ⟨rfl, rfl⟩

theorem write_4 (q : Req) (hq : q.op = 4) (r : List UInt8) (hr : r.length = 7) (h1 : ((beNat ((r.drop 2).take 1) : Nat) : Int) ≤ 31) (a : List UInt8) (z : Req) (hz : z = { q with whom := (beNat (r.take 2) : Nat), rights := (beNat ((r.drop 2).take 1) : Nat), til := (beNat ((r.drop 3).take 4) : Nat) }) : (fieldsS (⟨0, a, 13, false⟩, z)).1.bad = false ∧ (fieldsS (⟨0, a, 13, false⟩, z)).1.l = a ++ r := by
  have ho : z.op = 4 := by rw [hz]; exact hq

  have e1 : ruleS (⟨0, a, 13, false⟩, z) = (⟨0, (((a ++ toBE 2 (beNat (r.take 2))) ++ toBE 1 (beNat ((r.drop 2).take 1))) ++ toBE 4 (beNat ((r.drop 3).take 4))), 20, false⟩, z) := by
    unfold ruleS
    simp only [ho]
    simp only [if_true, reduceIte, Int.reduceEq]
    rw [nS_w LWhom 2 65535 (beNat (r.take 2)) (by rw [hz]; rfl) (by have := be2_le r; omega), nS_w LRights 1 31 (beNat ((r.drop 2).take 1)) (by rw [hz]; rfl) h1, nS_w LTil 4 4294967295 (beNat ((r.drop 3).take 4)) (by rw [hz]; rfl) (by have := be4_le (r.drop 3); omega)]
    rfl
  have hF : fieldsS (⟨0, a, 13, false⟩, z) = (⟨0, (((a ++ toBE 2 (beNat (r.take 2))) ++ toBE 1 (beNat ((r.drop 2).take 1))) ++ toBE 4 (beNat ((r.drop 3).take 4))), 20, false⟩, z) := by
    unfold fieldsS
    rw [e1]
    unfold ownS
    simp [ho]
  rw [hF]
  refine ⟨rfl, ?_⟩
  show (((a ++ toBE 2 (beNat (r.take 2))) ++ toBE 1 (beNat ((r.drop 2).take 1))) ++ toBE 4 (beNat ((r.drop 3).take 4))) = a ++ r
  rw [toBE_take 2 r (by omega), toBE_take 1 (r.drop 2) (by rw [List.length_drop]; omega), toBE_take 4 (r.drop 3) (by rw [List.length_drop]; omega)]
  have hj : ((r.take 2) ++ ((r.drop 2).take 1)) ++ ((r.drop 3).take 4) = r := by rw [← List.take_add, ← List.take_add, List.take_of_length_le (by omega)]
  refine Eq.trans ?_ (congrArg (a ++ ·) hj)
  simp only [List.append_assoc]

theorem write_5 (q : Req) (hq : q.op = 5) (r : List UInt8) (hr : r.length = 14) (h0 : ((beNat (r.take 1) : Nat) : Int) ≤ 31) (h1 : ((beNat ((r.drop 1).take 1) : Nat) : Int) ≤ 16) (a : List UInt8) (z : Req) (hz : z = { q with rights := (beNat (r.take 1) : Nat), zoom := (beNat ((r.drop 1).take 1) : Nat), x0 := (beNat ((r.drop 2).take 2) : Nat), y0 := (beNat ((r.drop 4).take 2) : Nat), x1 := (beNat ((r.drop 6).take 2) : Nat), y1 := (beNat ((r.drop 8).take 2) : Nat), til := (beNat ((r.drop 10).take 4) : Nat) }) : (fieldsS (⟨0, a, 13, false⟩, z)).1.bad = false ∧ (fieldsS (⟨0, a, 13, false⟩, z)).1.l = a ++ r := by
  have ho : z.op = 5 := by rw [hz]; exact hq

  have e1 : ruleS (⟨0, a, 13, false⟩, z) = (⟨0, a, 13, false⟩, z) := by
    unfold ruleS
    simp [ho]
  have e2 : ownS (⟨0, a, 13, false⟩, z) = (⟨0, (((((((a ++ toBE 1 (beNat (r.take 1))) ++ toBE 1 (beNat ((r.drop 1).take 1))) ++ toBE 2 (beNat ((r.drop 2).take 2))) ++ toBE 2 (beNat ((r.drop 4).take 2))) ++ toBE 2 (beNat ((r.drop 6).take 2))) ++ toBE 2 (beNat ((r.drop 8).take 2))) ++ toBE 4 (beNat ((r.drop 10).take 4))), 27, false⟩, z) := by
    unfold ownS
    simp only [ho]
    simp only [if_true, reduceIte, Int.reduceEq, boxS, pointS]
    rw [nS_w LRights 1 31 (beNat (r.take 1)) (by rw [hz]; rfl) h0, nS_w LZoom 1 16 (beNat ((r.drop 1).take 1)) (by rw [hz]; rfl) h1, nS_w LX0 2 65535 (beNat ((r.drop 2).take 2)) (by rw [hz]; rfl) (by have := be2_le (r.drop 2); omega), nS_w LY0 2 65535 (beNat ((r.drop 4).take 2)) (by rw [hz]; rfl) (by have := be2_le (r.drop 4); omega), nS_w LX1 2 65535 (beNat ((r.drop 6).take 2)) (by rw [hz]; rfl) (by have := be2_le (r.drop 6); omega), nS_w LY1 2 65535 (beNat ((r.drop 8).take 2)) (by rw [hz]; rfl) (by have := be2_le (r.drop 8); omega), nS_w LTil 4 4294967295 (beNat ((r.drop 10).take 4)) (by rw [hz]; rfl) (by have := be4_le (r.drop 10); omega)]
    rfl
  have hF : fieldsS (⟨0, a, 13, false⟩, z) = (⟨0, (((((((a ++ toBE 1 (beNat (r.take 1))) ++ toBE 1 (beNat ((r.drop 1).take 1))) ++ toBE 2 (beNat ((r.drop 2).take 2))) ++ toBE 2 (beNat ((r.drop 4).take 2))) ++ toBE 2 (beNat ((r.drop 6).take 2))) ++ toBE 2 (beNat ((r.drop 8).take 2))) ++ toBE 4 (beNat ((r.drop 10).take 4))), 27, false⟩, z) := by
    unfold fieldsS
    rw [e1, e2]
  rw [hF]
  refine ⟨rfl, ?_⟩
  show (((((((a ++ toBE 1 (beNat (r.take 1))) ++ toBE 1 (beNat ((r.drop 1).take 1))) ++ toBE 2 (beNat ((r.drop 2).take 2))) ++ toBE 2 (beNat ((r.drop 4).take 2))) ++ toBE 2 (beNat ((r.drop 6).take 2))) ++ toBE 2 (beNat ((r.drop 8).take 2))) ++ toBE 4 (beNat ((r.drop 10).take 4))) = a ++ r
  rw [toBE_take 1 r (by omega), toBE_take 1 (r.drop 1) (by rw [List.length_drop]; omega), toBE_take 2 (r.drop 2) (by rw [List.length_drop]; omega), toBE_take 2 (r.drop 4) (by rw [List.length_drop]; omega), toBE_take 2 (r.drop 6) (by rw [List.length_drop]; omega), toBE_take 2 (r.drop 8) (by rw [List.length_drop]; omega), toBE_take 4 (r.drop 10) (by rw [List.length_drop]; omega)]
  have hj : ((((((r.take 1) ++ ((r.drop 1).take 1)) ++ ((r.drop 2).take 2)) ++ ((r.drop 4).take 2)) ++ ((r.drop 6).take 2)) ++ ((r.drop 8).take 2)) ++ ((r.drop 10).take 4) = r := by rw [← List.take_add, ← List.take_add, ← List.take_add, ← List.take_add, ← List.take_add, ← List.take_add, List.take_of_length_le (by omega)]
  refine Eq.trans ?_ (congrArg (a ++ ·) hj)
  simp only [List.append_assoc]

theorem write_6 (q : Req) (hq : q.op = 6) (r : List UInt8) (hr : r.length = 8)  (a : List UInt8) (z : Req) (hz : z = { q with other := beNat (r.take 8) }) : (fieldsS (⟨0, a, 13, false⟩, z)).1.bad = false ∧ (fieldsS (⟨0, a, 13, false⟩, z)).1.l = a ++ r := by
  have ho : z.op = 6 := by rw [hz]; exact hq

  have e1 : ruleS (⟨0, a, 13, false⟩, z) = (⟨0, a, 13, false⟩, z) := by
    unfold ruleS
    simp [ho]
  have e2 : ownS (⟨0, a, 13, false⟩, z) = (⟨0, (a ++ toBE 8 (beNat (r.take 8))), 21, false⟩, z) := by
    unfold ownS
    simp only [ho]
    simp only [if_true, reduceIte, Int.reduceEq, boxS, pointS]
    rw [lS_w LOther (beNat (r.take 8)) (by rw [hz]; rfl)]
    rfl
  have hF : fieldsS (⟨0, a, 13, false⟩, z) = (⟨0, (a ++ toBE 8 (beNat (r.take 8))), 21, false⟩, z) := by
    unfold fieldsS
    rw [e1, e2]
  rw [hF]
  refine ⟨rfl, ?_⟩
  show (a ++ toBE 8 (beNat (r.take 8))) = a ++ r
  rw [toBE_take 8 r (by omega)]
  have hj : (r.take 8) = r := by rw [List.take_of_length_le (by omega)]
  refine Eq.trans ?_ (congrArg (a ++ ·) hj)
  simp only

theorem write_7 (q : Req) (hq : q.op = 7) (r : List UInt8) (hr : r.length = 10)  (a : List UInt8) (z : Req) (hz : z = { q with pk := (beNat (r.take 2) : Nat), area := beNat ((r.drop 2).take 8) }) : (fieldsS (⟨0, a, 13, false⟩, z)).1.bad = false ∧ (fieldsS (⟨0, a, 13, false⟩, z)).1.l = a ++ r := by
  have ho : z.op = 7 := by rw [hz]; exact hq

  have e1 : ruleS (⟨0, a, 13, false⟩, z) = (⟨0, a, 13, false⟩, z) := by
    unfold ruleS
    simp [ho]
  have e2 : ownS (⟨0, a, 13, false⟩, z) = (⟨0, ((a ++ toBE 2 (beNat (r.take 2))) ++ toBE 8 (beNat ((r.drop 2).take 8))), 23, false⟩, z) := by
    unfold ownS
    simp only [ho]
    simp only [if_true, reduceIte, Int.reduceEq, boxS, pointS]
    rw [nS_w LPk 2 65535 (beNat (r.take 2)) (by rw [hz]; rfl) (by have := be2_le r; omega), lS_w LArea (beNat ((r.drop 2).take 8)) (by rw [hz]; rfl)]
    rfl
  have hF : fieldsS (⟨0, a, 13, false⟩, z) = (⟨0, ((a ++ toBE 2 (beNat (r.take 2))) ++ toBE 8 (beNat ((r.drop 2).take 8))), 23, false⟩, z) := by
    unfold fieldsS
    rw [e1, e2]
  rw [hF]
  refine ⟨rfl, ?_⟩
  show ((a ++ toBE 2 (beNat (r.take 2))) ++ toBE 8 (beNat ((r.drop 2).take 8))) = a ++ r
  rw [toBE_take 2 r (by omega), toBE_take 8 (r.drop 2) (by rw [List.length_drop]; omega)]
  have hj : (r.take 2) ++ ((r.drop 2).take 8) = r := by rw [← List.take_add, List.take_of_length_le (by omega)]
  refine Eq.trans ?_ (congrArg (a ++ ·) hj)
  simp only [List.append_assoc]

theorem write_8 (q : Req) (hq : q.op = 8) (r : List UInt8) (hr : r.length = 5) (h2 : ((beNat ((r.drop 4).take 1) : Nat) : Int) ≤ 7) (a : List UInt8) (z : Req) (hz : z = { q with ax := (beNat (r.take 2) : Nat), ay := (beNat ((r.drop 2).take 2) : Nat), label := (beNat ((r.drop 4).take 1) : Nat) }) : (fieldsS (⟨0, a, 13, false⟩, z)).1.bad = false ∧ (fieldsS (⟨0, a, 13, false⟩, z)).1.l = a ++ r := by
  have ho : z.op = 8 := by rw [hz]; exact hq

  have e1 : ruleS (⟨0, a, 13, false⟩, z) = (⟨0, a, 13, false⟩, z) := by
    unfold ruleS
    simp [ho]
  have e2 : ownS (⟨0, a, 13, false⟩, z) = (⟨0, (((a ++ toBE 2 (beNat (r.take 2))) ++ toBE 2 (beNat ((r.drop 2).take 2))) ++ toBE 1 (beNat ((r.drop 4).take 1))), 18, false⟩, z) := by
    unfold ownS
    simp only [ho]
    simp only [if_true, reduceIte, Int.reduceEq, boxS, pointS]
    rw [nS_w LAx 2 65535 (beNat (r.take 2)) (by rw [hz]; rfl) (by have := be2_le r; omega), nS_w LAy 2 65535 (beNat ((r.drop 2).take 2)) (by rw [hz]; rfl) (by have := be2_le (r.drop 2); omega), nS_w LLabel 1 7 (beNat ((r.drop 4).take 1)) (by rw [hz]; rfl) h2]
    rfl
  have hF : fieldsS (⟨0, a, 13, false⟩, z) = (⟨0, (((a ++ toBE 2 (beNat (r.take 2))) ++ toBE 2 (beNat ((r.drop 2).take 2))) ++ toBE 1 (beNat ((r.drop 4).take 1))), 18, false⟩, z) := by
    unfold fieldsS
    rw [e1, e2]
  rw [hF]
  refine ⟨rfl, ?_⟩
  show (((a ++ toBE 2 (beNat (r.take 2))) ++ toBE 2 (beNat ((r.drop 2).take 2))) ++ toBE 1 (beNat ((r.drop 4).take 1))) = a ++ r
  rw [toBE_take 2 r (by omega), toBE_take 2 (r.drop 2) (by rw [List.length_drop]; omega), toBE_take 1 (r.drop 4) (by rw [List.length_drop]; omega)]
  have hj : ((r.take 2) ++ ((r.drop 2).take 2)) ++ ((r.drop 4).take 1) = r := by rw [← List.take_add, ← List.take_add, List.take_of_length_le (by omega)]
  refine Eq.trans ?_ (congrArg (a ++ ·) hj)
  simp only [List.append_assoc]

theorem write_9 (q : Req) (hq : q.op = 9) (r : List UInt8) (hr : r.length = 0)  (a : List UInt8) (z : Req) (hz : z = q) : (fieldsS (⟨0, a, 13, false⟩, z)).1.bad = false ∧ (fieldsS (⟨0, a, 13, false⟩, z)).1.l = a ++ r := by
  have ho : z.op = 9 := by rw [hz]; exact hq

  have e1 : ruleS (⟨0, a, 13, false⟩, z) = (⟨0, a, 13, false⟩, z) := by
    unfold ruleS
    simp [ho]
  have hr0 : r = [] := List.eq_nil_of_length_eq_zero hr
  have hF : fieldsS (⟨0, a, 13, false⟩, z) = (⟨0, a, 13, false⟩, z) := by
    unfold fieldsS
    rw [e1]
    unfold ownS
    simp [ho]
  rw [hF, hr0, List.append_nil]
  exact ⟨rfl, rfl⟩

theorem write_10 (q : Req) (hq : q.op = 10) (r : List UInt8) (hr : r.length = 0)  (a : List UInt8) (z : Req) (hz : z = q) : (fieldsS (⟨0, a, 13, false⟩, z)).1.bad = false ∧ (fieldsS (⟨0, a, 13, false⟩, z)).1.l = a ++ r := by
  have ho : z.op = 10 := by rw [hz]; exact hq

  have e1 : ruleS (⟨0, a, 13, false⟩, z) = (⟨0, a, 13, false⟩, z) := by
    unfold ruleS
    simp [ho]
  have hr0 : r = [] := List.eq_nil_of_length_eq_zero hr
  have hF : fieldsS (⟨0, a, 13, false⟩, z) = (⟨0, a, 13, false⟩, z) := by
    unfold fieldsS
    rw [e1]
    unfold ownS
    simp [ho]
  rw [hF, hr0, List.append_nil]
  exact ⟨rfl, rfl⟩

theorem write_11 (q : Req) (hq : q.op = 11) (r : List UInt8) (hr : r.length = 0)  (a : List UInt8) (z : Req) (hz : z = q) : (fieldsS (⟨0, a, 13, false⟩, z)).1.bad = false ∧ (fieldsS (⟨0, a, 13, false⟩, z)).1.l = a ++ r := by
  have ho : z.op = 11 := by rw [hz]; exact hq

  have e1 : ruleS (⟨0, a, 13, false⟩, z) = (⟨0, a, 13, false⟩, z) := by
    unfold ruleS
    simp [ho]
  have hr0 : r = [] := List.eq_nil_of_length_eq_zero hr
  have hF : fieldsS (⟨0, a, 13, false⟩, z) = (⟨0, a, 13, false⟩, z) := by
    unfold fieldsS
    rw [e1]
    unfold ownS
    simp [ho]
  rw [hF, hr0, List.append_nil]
  exact ⟨rfl, rfl⟩

theorem write_12 (q : Req) (hq : q.op = 12) (r : List UInt8) (hr : r.length = 0)  (a : List UInt8) (z : Req) (hz : z = q) : (fieldsS (⟨0, a, 13, false⟩, z)).1.bad = false ∧ (fieldsS (⟨0, a, 13, false⟩, z)).1.l = a ++ r := by
  have ho : z.op = 12 := by rw [hz]; exact hq

  have e1 : ruleS (⟨0, a, 13, false⟩, z) = (⟨0, a, 13, false⟩, z) := by
    unfold ruleS
    simp [ho]
  have hr0 : r = [] := List.eq_nil_of_length_eq_zero hr
  have hF : fieldsS (⟨0, a, 13, false⟩, z) = (⟨0, a, 13, false⟩, z) := by
    unfold fieldsS
    rw [e1]
    unfold ownS
    simp [ho]
  rw [hF, hr0, List.append_nil]
  exact ⟨rfl, rfl⟩

theorem write_13 (q : Req) (hq : q.op = 13) (r : List UInt8) (hr : r.length = 8)  (a : List UInt8) (z : Req) (hz : z = { q with x0 := (beNat (r.take 2) : Nat), y0 := (beNat ((r.drop 2).take 2) : Nat), x1 := (beNat ((r.drop 4).take 2) : Nat), y1 := (beNat ((r.drop 6).take 2) : Nat) }) : (fieldsS (⟨0, a, 13, false⟩, z)).1.bad = false ∧ (fieldsS (⟨0, a, 13, false⟩, z)).1.l = a ++ r := by
  have ho : z.op = 13 := by rw [hz]; exact hq

  have e1 : ruleS (⟨0, a, 13, false⟩, z) = (⟨0, a, 13, false⟩, z) := by
    unfold ruleS
    simp [ho]
  have e2 : ownS (⟨0, a, 13, false⟩, z) = (⟨0, ((((a ++ toBE 2 (beNat (r.take 2))) ++ toBE 2 (beNat ((r.drop 2).take 2))) ++ toBE 2 (beNat ((r.drop 4).take 2))) ++ toBE 2 (beNat ((r.drop 6).take 2))), 21, false⟩, z) := by
    unfold ownS
    simp only [ho]
    simp only [if_true, reduceIte, Int.reduceEq, boxS, pointS]
    rw [nS_w LX0 2 65535 (beNat (r.take 2)) (by rw [hz]; rfl) (by have := be2_le r; omega), nS_w LY0 2 65535 (beNat ((r.drop 2).take 2)) (by rw [hz]; rfl) (by have := be2_le (r.drop 2); omega), nS_w LX1 2 65535 (beNat ((r.drop 4).take 2)) (by rw [hz]; rfl) (by have := be2_le (r.drop 4); omega), nS_w LY1 2 65535 (beNat ((r.drop 6).take 2)) (by rw [hz]; rfl) (by have := be2_le (r.drop 6); omega)]
    rfl
  have hF : fieldsS (⟨0, a, 13, false⟩, z) = (⟨0, ((((a ++ toBE 2 (beNat (r.take 2))) ++ toBE 2 (beNat ((r.drop 2).take 2))) ++ toBE 2 (beNat ((r.drop 4).take 2))) ++ toBE 2 (beNat ((r.drop 6).take 2))), 21, false⟩, z) := by
    unfold fieldsS
    rw [e1, e2]
  rw [hF]
  refine ⟨rfl, ?_⟩
  show ((((a ++ toBE 2 (beNat (r.take 2))) ++ toBE 2 (beNat ((r.drop 2).take 2))) ++ toBE 2 (beNat ((r.drop 4).take 2))) ++ toBE 2 (beNat ((r.drop 6).take 2))) = a ++ r
  rw [toBE_take 2 r (by omega), toBE_take 2 (r.drop 2) (by rw [List.length_drop]; omega), toBE_take 2 (r.drop 4) (by rw [List.length_drop]; omega), toBE_take 2 (r.drop 6) (by rw [List.length_drop]; omega)]
  have hj : (((r.take 2) ++ ((r.drop 2).take 2)) ++ ((r.drop 4).take 2)) ++ ((r.drop 6).take 2) = r := by rw [← List.take_add, ← List.take_add, ← List.take_add, List.take_of_length_le (by omega)]
  refine Eq.trans ?_ (congrArg (a ++ ·) hj)
  simp only [List.append_assoc]

theorem write_14 (q : Req) (hq : q.op = 14) (r : List UInt8) (hr : r.length = 4)  (a : List UInt8) (z : Req) (hz : z = { q with ax := (beNat (r.take 2) : Nat), ay := (beNat ((r.drop 2).take 2) : Nat) }) : (fieldsS (⟨0, a, 13, false⟩, z)).1.bad = false ∧ (fieldsS (⟨0, a, 13, false⟩, z)).1.l = a ++ r := by
  have ho : z.op = 14 := by rw [hz]; exact hq

  have e1 : ruleS (⟨0, a, 13, false⟩, z) = (⟨0, a, 13, false⟩, z) := by
    unfold ruleS
    simp [ho]
  have e2 : ownS (⟨0, a, 13, false⟩, z) = (⟨0, ((a ++ toBE 2 (beNat (r.take 2))) ++ toBE 2 (beNat ((r.drop 2).take 2))), 17, false⟩, z) := by
    unfold ownS
    simp only [ho]
    simp only [if_true, reduceIte, Int.reduceEq, boxS, pointS]
    rw [nS_w LAx 2 65535 (beNat (r.take 2)) (by rw [hz]; rfl) (by have := be2_le r; omega), nS_w LAy 2 65535 (beNat ((r.drop 2).take 2)) (by rw [hz]; rfl) (by have := be2_le (r.drop 2); omega)]
    rfl
  have hF : fieldsS (⟨0, a, 13, false⟩, z) = (⟨0, ((a ++ toBE 2 (beNat (r.take 2))) ++ toBE 2 (beNat ((r.drop 2).take 2))), 17, false⟩, z) := by
    unfold fieldsS
    rw [e1, e2]
  rw [hF]
  refine ⟨rfl, ?_⟩
  show ((a ++ toBE 2 (beNat (r.take 2))) ++ toBE 2 (beNat ((r.drop 2).take 2))) = a ++ r
  rw [toBE_take 2 r (by omega), toBE_take 2 (r.drop 2) (by rw [List.length_drop]; omega)]
  have hj : (r.take 2) ++ ((r.drop 2).take 2) = r := by rw [← List.take_add, List.take_of_length_le (by omega)]
  refine Eq.trans ?_ (congrArg (a ++ ·) hj)
  simp only [List.append_assoc]

theorem write_15 (q : Req) (hq : q.op = 15) (r : List UInt8) (hr : r.length = 8)  (a : List UInt8) (z : Req) (hz : z = { q with x0 := (beNat (r.take 2) : Nat), y0 := (beNat ((r.drop 2).take 2) : Nat), x1 := (beNat ((r.drop 4).take 2) : Nat), y1 := (beNat ((r.drop 6).take 2) : Nat) }) : (fieldsS (⟨0, a, 13, false⟩, z)).1.bad = false ∧ (fieldsS (⟨0, a, 13, false⟩, z)).1.l = a ++ r := by
  have ho : z.op = 15 := by rw [hz]; exact hq

  have e1 : ruleS (⟨0, a, 13, false⟩, z) = (⟨0, a, 13, false⟩, z) := by
    unfold ruleS
    simp [ho]
  have e2 : ownS (⟨0, a, 13, false⟩, z) = (⟨0, ((((a ++ toBE 2 (beNat (r.take 2))) ++ toBE 2 (beNat ((r.drop 2).take 2))) ++ toBE 2 (beNat ((r.drop 4).take 2))) ++ toBE 2 (beNat ((r.drop 6).take 2))), 21, false⟩, z) := by
    unfold ownS
    simp only [ho]
    simp only [if_true, reduceIte, Int.reduceEq, boxS, pointS]
    rw [nS_w LX0 2 65535 (beNat (r.take 2)) (by rw [hz]; rfl) (by have := be2_le r; omega), nS_w LY0 2 65535 (beNat ((r.drop 2).take 2)) (by rw [hz]; rfl) (by have := be2_le (r.drop 2); omega), nS_w LX1 2 65535 (beNat ((r.drop 4).take 2)) (by rw [hz]; rfl) (by have := be2_le (r.drop 4); omega), nS_w LY1 2 65535 (beNat ((r.drop 6).take 2)) (by rw [hz]; rfl) (by have := be2_le (r.drop 6); omega)]
    rfl
  have hF : fieldsS (⟨0, a, 13, false⟩, z) = (⟨0, ((((a ++ toBE 2 (beNat (r.take 2))) ++ toBE 2 (beNat ((r.drop 2).take 2))) ++ toBE 2 (beNat ((r.drop 4).take 2))) ++ toBE 2 (beNat ((r.drop 6).take 2))), 21, false⟩, z) := by
    unfold fieldsS
    rw [e1, e2]
  rw [hF]
  refine ⟨rfl, ?_⟩
  show ((((a ++ toBE 2 (beNat (r.take 2))) ++ toBE 2 (beNat ((r.drop 2).take 2))) ++ toBE 2 (beNat ((r.drop 4).take 2))) ++ toBE 2 (beNat ((r.drop 6).take 2))) = a ++ r
  rw [toBE_take 2 r (by omega), toBE_take 2 (r.drop 2) (by rw [List.length_drop]; omega), toBE_take 2 (r.drop 4) (by rw [List.length_drop]; omega), toBE_take 2 (r.drop 6) (by rw [List.length_drop]; omega)]
  have hj : (((r.take 2) ++ ((r.drop 2).take 2)) ++ ((r.drop 4).take 2)) ++ ((r.drop 6).take 2) = r := by rw [← List.take_add, ← List.take_add, ← List.take_add, List.take_of_length_le (by omega)]
  refine Eq.trans ?_ (congrArg (a ++ ·) hj)
  simp only [List.append_assoc]

theorem write_16 (q : Req) (hq : q.op = 16) (r : List UInt8) (hr : r.length = 4)  (a : List UInt8) (z : Req) (hz : z = { q with ax := (beNat (r.take 2) : Nat), ay := (beNat ((r.drop 2).take 2) : Nat) }) : (fieldsS (⟨0, a, 13, false⟩, z)).1.bad = false ∧ (fieldsS (⟨0, a, 13, false⟩, z)).1.l = a ++ r := by
  have ho : z.op = 16 := by rw [hz]; exact hq

  have e1 : ruleS (⟨0, a, 13, false⟩, z) = (⟨0, a, 13, false⟩, z) := by
    unfold ruleS
    simp [ho]
  have e2 : ownS (⟨0, a, 13, false⟩, z) = (⟨0, ((a ++ toBE 2 (beNat (r.take 2))) ++ toBE 2 (beNat ((r.drop 2).take 2))), 17, false⟩, z) := by
    unfold ownS
    simp only [ho]
    simp only [if_true, reduceIte, Int.reduceEq, boxS, pointS]
    rw [nS_w LAx 2 65535 (beNat (r.take 2)) (by rw [hz]; rfl) (by have := be2_le r; omega), nS_w LAy 2 65535 (beNat ((r.drop 2).take 2)) (by rw [hz]; rfl) (by have := be2_le (r.drop 2); omega)]
    rfl
  have hF : fieldsS (⟨0, a, 13, false⟩, z) = (⟨0, ((a ++ toBE 2 (beNat (r.take 2))) ++ toBE 2 (beNat ((r.drop 2).take 2))), 17, false⟩, z) := by
    unfold fieldsS
    rw [e1, e2]
  rw [hF]
  refine ⟨rfl, ?_⟩
  show ((a ++ toBE 2 (beNat (r.take 2))) ++ toBE 2 (beNat ((r.drop 2).take 2))) = a ++ r
  rw [toBE_take 2 r (by omega), toBE_take 2 (r.drop 2) (by rw [List.length_drop]; omega)]
  have hj : (r.take 2) ++ ((r.drop 2).take 2) = r := by rw [← List.take_add, List.take_of_length_le (by omega)]
  refine Eq.trans ?_ (congrArg (a ++ ·) hj)
  simp only [List.append_assoc]

theorem write_17 (q : Req) (hq : q.op = 17) (r : List UInt8) (hr : r.length = 2)  (a : List UInt8) (z : Req) (hz : z = { q with frm := (beNat (r.take 2) : Nat) }) : (fieldsS (⟨0, a, 13, false⟩, z)).1.bad = false ∧ (fieldsS (⟨0, a, 13, false⟩, z)).1.l = a ++ r := by
  have ho : z.op = 17 := by rw [hz]; exact hq

  have e1 : ruleS (⟨0, a, 13, false⟩, z) = (⟨0, a, 13, false⟩, z) := by
    unfold ruleS
    simp [ho]
  have e2 : ownS (⟨0, a, 13, false⟩, z) = (⟨0, (a ++ toBE 2 (beNat (r.take 2))), 15, false⟩, z) := by
    unfold ownS
    simp only [ho]
    simp only [if_true, reduceIte, Int.reduceEq, boxS, pointS]
    rw [nS_w LFrm 2 65535 (beNat (r.take 2)) (by rw [hz]; rfl) (by have := be2_le r; omega)]
    rfl
  have hF : fieldsS (⟨0, a, 13, false⟩, z) = (⟨0, (a ++ toBE 2 (beNat (r.take 2))), 15, false⟩, z) := by
    unfold fieldsS
    rw [e1, e2]
  rw [hF]
  refine ⟨rfl, ?_⟩
  show (a ++ toBE 2 (beNat (r.take 2))) = a ++ r
  rw [toBE_take 2 r (by omega)]
  have hj : (r.take 2) = r := by rw [List.take_of_length_le (by omega)]
  refine Eq.trans ?_ (congrArg (a ++ ·) hj)
  simp only

theorem write_18 (q : Req) (hq : q.op = 18) (r : List UInt8) (hr : r.length = 0)  (a : List UInt8) (z : Req) (hz : z = q) : (fieldsS (⟨0, a, 13, false⟩, z)).1.bad = false ∧ (fieldsS (⟨0, a, 13, false⟩, z)).1.l = a ++ r := by
  have ho : z.op = 18 := by rw [hz]; exact hq

  have e1 : ruleS (⟨0, a, 13, false⟩, z) = (⟨0, a, 13, false⟩, z) := by
    unfold ruleS
    simp [ho]
  have hr0 : r = [] := List.eq_nil_of_length_eq_zero hr
  have hF : fieldsS (⟨0, a, 13, false⟩, z) = (⟨0, a, 13, false⟩, z) := by
    unfold fieldsS
    rw [e1]
    unfold ownS
    simp [ho]
  rw [hF, hr0, List.append_nil]
  exact ⟨rfl, rfl⟩

theorem write_19 (q : Req) (hq : q.op = 19) (r : List UInt8) (hr : r.length = 4)  (a : List UInt8) (z : Req) (hz : z = { q with whom := (beNat (r.take 2) : Nat), quota := (beNat ((r.drop 2).take 2) : Nat) }) : (fieldsS (⟨0, a, 13, false⟩, z)).1.bad = false ∧ (fieldsS (⟨0, a, 13, false⟩, z)).1.l = a ++ r := by
  have ho : z.op = 19 := by rw [hz]; exact hq

  have e1 : ruleS (⟨0, a, 13, false⟩, z) = (⟨0, ((a ++ toBE 2 (beNat (r.take 2))) ++ toBE 2 (beNat ((r.drop 2).take 2))), 17, false⟩, z) := by
    unfold ruleS
    simp only [ho]
    simp only [if_true, reduceIte, Int.reduceEq]
    rw [nS_w LWhom 2 65535 (beNat (r.take 2)) (by rw [hz]; rfl) (by have := be2_le r; omega), nS_w LQuota 2 65535 (beNat ((r.drop 2).take 2)) (by rw [hz]; rfl) (by have := be2_le (r.drop 2); omega)]
    rfl
  have hF : fieldsS (⟨0, a, 13, false⟩, z) = (⟨0, ((a ++ toBE 2 (beNat (r.take 2))) ++ toBE 2 (beNat ((r.drop 2).take 2))), 17, false⟩, z) := by
    unfold fieldsS
    rw [e1]
    unfold ownS
    simp [ho]
  rw [hF]
  refine ⟨rfl, ?_⟩
  show ((a ++ toBE 2 (beNat (r.take 2))) ++ toBE 2 (beNat ((r.drop 2).take 2))) = a ++ r
  rw [toBE_take 2 r (by omega), toBE_take 2 (r.drop 2) (by rw [List.length_drop]; omega)]
  have hj : (r.take 2) ++ ((r.drop 2).take 2) = r := by rw [← List.take_add, List.take_of_length_le (by omega)]
  refine Eq.trans ?_ (congrArg (a ++ ·) hj)
  simp only [List.append_assoc]

theorem good_1 (l : List UInt8) (h : Good l) (hop : (headR l).op = 1) : (fieldsS (⟨0, l.take 13, 13, false⟩, bodyQ l)).1.bad = false ∧ (fieldsS (⟨0, l.take 13, 13, false⟩, bodyQ l)).1.l = l.take 13 ++ l.drop 13 := by
  have hr : (l.drop 13).length = 6 := by
    have h1 := h.lo
    have h2 := h.hi (by rw [hop]; decide)
    have h3 : fieldsN 1 = 6 := rfl
    rw [hop, h3] at h1 h2
    rw [List.length_drop]
    omega
  have hz := show bodyQ l = withR (headR l) (cutN (l.drop 13) (widths (headR l).op)) (if (headR l).op = 3 then l.drop 13 else []) from rfl
  simp only [withR, hop, widths] at hz
  simp only [reduceIte, Int.reduceEq] at hz
  have hs : smallB (bodyQ l) = true := by have := h.rng; rw [rangeB_eq, Bool.and_eq_true] at this; exact this.2
  unfold smallB at hs
  simp only [Bool.and_eq_true, decide_eq_true_eq] at hs
  obtain ⟨s1, s2, s3, s4, s5⟩ := hs
  rw [hz] at s1 s2 s3 s4 s5
  exact write_1 (headR l) hop (l.drop 13) hr (by simpa [cutN, List.drop_drop] using s1) (by simpa [cutN, List.drop_drop] using s2) (l.take 13) (bodyQ l) (by rw [hz]; simp [cutN, hop, List.drop_drop])

theorem good_2 (l : List UInt8) (h : Good l) (hop : (headR l).op = 2) : (fieldsS (⟨0, l.take 13, 13, false⟩, bodyQ l)).1.bad = false ∧ (fieldsS (⟨0, l.take 13, 13, false⟩, bodyQ l)).1.l = l.take 13 ++ l.drop 13 := by
  have hr : (l.drop 13).length = 2 := by
    have h1 := h.lo
    have h2 := h.hi (by rw [hop]; decide)
    have h3 : fieldsN 2 = 2 := rfl
    rw [hop, h3] at h1 h2
    rw [List.length_drop]
    omega
  have hz := show bodyQ l = withR (headR l) (cutN (l.drop 13) (widths (headR l).op)) (if (headR l).op = 3 then l.drop 13 else []) from rfl
  simp only [withR, hop, widths] at hz
  simp only [reduceIte, Int.reduceEq] at hz
  exact write_2 (headR l) hop (l.drop 13) hr  (l.take 13) (bodyQ l) (by rw [hz]; simp [cutN, hop])

theorem good_3 (l : List UInt8) (h : Good l) (hop : (headR l).op = 3) : (fieldsS (⟨0, l.take 13, 13, false⟩, bodyQ l)).1.bad = false ∧ (fieldsS (⟨0, l.take 13, 13, false⟩, bodyQ l)).1.l = l.take 13 ++ l.drop 13 := by
  have hr : (l.drop 13).length ≤ 512 := by rw [List.length_drop]; exact h.top
  have hz := show bodyQ l = withR (headR l) (cutN (l.drop 13) (widths (headR l).op)) (if (headR l).op = 3 then l.drop 13 else []) from rfl
  simp only [withR, hop, widths] at hz
  simp only [reduceIte, Int.reduceEq] at hz
  exact write_3 (headR l) hop (l.drop 13) hr  (l.take 13) (bodyQ l) (by rw [hz]; simp [hop])

theorem good_4 (l : List UInt8) (h : Good l) (hop : (headR l).op = 4) : (fieldsS (⟨0, l.take 13, 13, false⟩, bodyQ l)).1.bad = false ∧ (fieldsS (⟨0, l.take 13, 13, false⟩, bodyQ l)).1.l = l.take 13 ++ l.drop 13 := by
  have hr : (l.drop 13).length = 7 := by
    have h1 := h.lo
    have h2 := h.hi (by rw [hop]; decide)
    have h3 : fieldsN 4 = 7 := rfl
    rw [hop, h3] at h1 h2
    rw [List.length_drop]
    omega
  have hz := show bodyQ l = withR (headR l) (cutN (l.drop 13) (widths (headR l).op)) (if (headR l).op = 3 then l.drop 13 else []) from rfl
  simp only [withR, hop, widths] at hz
  simp only [reduceIte, Int.reduceEq] at hz
  have hs : smallB (bodyQ l) = true := by have := h.rng; rw [rangeB_eq, Bool.and_eq_true] at this; exact this.2
  unfold smallB at hs
  simp only [Bool.and_eq_true, decide_eq_true_eq] at hs
  obtain ⟨s1, s2, s3, s4, s5⟩ := hs
  rw [hz] at s1 s2 s3 s4 s5
  exact write_4 (headR l) hop (l.drop 13) hr (by simpa [cutN, List.drop_drop] using s4) (l.take 13) (bodyQ l) (by rw [hz]; simp [cutN, hop, List.drop_drop])

theorem good_5 (l : List UInt8) (h : Good l) (hop : (headR l).op = 5) : (fieldsS (⟨0, l.take 13, 13, false⟩, bodyQ l)).1.bad = false ∧ (fieldsS (⟨0, l.take 13, 13, false⟩, bodyQ l)).1.l = l.take 13 ++ l.drop 13 := by
  have hr : (l.drop 13).length = 14 := by
    have h1 := h.lo
    have h2 := h.hi (by rw [hop]; decide)
    have h3 : fieldsN 5 = 14 := rfl
    rw [hop, h3] at h1 h2
    rw [List.length_drop]
    omega
  have hz := show bodyQ l = withR (headR l) (cutN (l.drop 13) (widths (headR l).op)) (if (headR l).op = 3 then l.drop 13 else []) from rfl
  simp only [withR, hop, widths] at hz
  simp only [reduceIte, Int.reduceEq] at hz
  have hs : smallB (bodyQ l) = true := by have := h.rng; rw [rangeB_eq, Bool.and_eq_true] at this; exact this.2
  unfold smallB at hs
  simp only [Bool.and_eq_true, decide_eq_true_eq] at hs
  obtain ⟨s1, s2, s3, s4, s5⟩ := hs
  rw [hz] at s1 s2 s3 s4 s5
  exact write_5 (headR l) hop (l.drop 13) hr (by simpa [cutN, List.drop_drop] using s4) (by simpa [cutN, List.drop_drop] using s5) (l.take 13) (bodyQ l) (by rw [hz]; simp [cutN, hop, List.drop_drop])

theorem good_6 (l : List UInt8) (h : Good l) (hop : (headR l).op = 6) : (fieldsS (⟨0, l.take 13, 13, false⟩, bodyQ l)).1.bad = false ∧ (fieldsS (⟨0, l.take 13, 13, false⟩, bodyQ l)).1.l = l.take 13 ++ l.drop 13 := by
  have hr : (l.drop 13).length = 8 := by
    have h1 := h.lo
    have h2 := h.hi (by rw [hop]; decide)
    have h3 : fieldsN 6 = 8 := rfl
    rw [hop, h3] at h1 h2
    rw [List.length_drop]
    omega
  have hz := show bodyQ l = withR (headR l) (cutN (l.drop 13) (widths (headR l).op)) (if (headR l).op = 3 then l.drop 13 else []) from rfl
  simp only [withR, hop, widths] at hz
  simp only [reduceIte, Int.reduceEq] at hz
  exact write_6 (headR l) hop (l.drop 13) hr  (l.take 13) (bodyQ l) (by rw [hz]; simp [cutN, hop])

theorem good_7 (l : List UInt8) (h : Good l) (hop : (headR l).op = 7) : (fieldsS (⟨0, l.take 13, 13, false⟩, bodyQ l)).1.bad = false ∧ (fieldsS (⟨0, l.take 13, 13, false⟩, bodyQ l)).1.l = l.take 13 ++ l.drop 13 := by
  have hr : (l.drop 13).length = 10 := by
    have h1 := h.lo
    have h2 := h.hi (by rw [hop]; decide)
    have h3 : fieldsN 7 = 10 := rfl
    rw [hop, h3] at h1 h2
    rw [List.length_drop]
    omega
  have hz := show bodyQ l = withR (headR l) (cutN (l.drop 13) (widths (headR l).op)) (if (headR l).op = 3 then l.drop 13 else []) from rfl
  simp only [withR, hop, widths] at hz
  simp only [reduceIte, Int.reduceEq] at hz
  exact write_7 (headR l) hop (l.drop 13) hr  (l.take 13) (bodyQ l) (by rw [hz]; simp [cutN, hop, List.drop_drop])

theorem good_8 (l : List UInt8) (h : Good l) (hop : (headR l).op = 8) : (fieldsS (⟨0, l.take 13, 13, false⟩, bodyQ l)).1.bad = false ∧ (fieldsS (⟨0, l.take 13, 13, false⟩, bodyQ l)).1.l = l.take 13 ++ l.drop 13 := by
  have hr : (l.drop 13).length = 5 := by
    have h1 := h.lo
    have h2 := h.hi (by rw [hop]; decide)
    have h3 : fieldsN 8 = 5 := rfl
    rw [hop, h3] at h1 h2
    rw [List.length_drop]
    omega
  have hz := show bodyQ l = withR (headR l) (cutN (l.drop 13) (widths (headR l).op)) (if (headR l).op = 3 then l.drop 13 else []) from rfl
  simp only [withR, hop, widths] at hz
  simp only [reduceIte, Int.reduceEq] at hz
  have hs : smallB (bodyQ l) = true := by have := h.rng; rw [rangeB_eq, Bool.and_eq_true] at this; exact this.2
  unfold smallB at hs
  simp only [Bool.and_eq_true, decide_eq_true_eq] at hs
  obtain ⟨s1, s2, s3, s4, s5⟩ := hs
  rw [hz] at s1 s2 s3 s4 s5
  exact write_8 (headR l) hop (l.drop 13) hr (by simpa [cutN, List.drop_drop] using s3) (l.take 13) (bodyQ l) (by rw [hz]; simp [cutN, hop, List.drop_drop])

theorem good_9 (l : List UInt8) (h : Good l) (hop : (headR l).op = 9) : (fieldsS (⟨0, l.take 13, 13, false⟩, bodyQ l)).1.bad = false ∧ (fieldsS (⟨0, l.take 13, 13, false⟩, bodyQ l)).1.l = l.take 13 ++ l.drop 13 := by
  have hr : (l.drop 13).length = 0 := by
    have h1 := h.lo
    have h2 := h.hi (by rw [hop]; decide)
    have h3 : fieldsN 9 = 0 := rfl
    rw [hop, h3] at h1 h2
    rw [List.length_drop]
    omega
  have hz := show bodyQ l = withR (headR l) (cutN (l.drop 13) (widths (headR l).op)) (if (headR l).op = 3 then l.drop 13 else []) from rfl
  simp only [withR, hop, widths] at hz
  simp only [reduceIte, Int.reduceEq] at hz
  exact write_9 (headR l) hop (l.drop 13) hr  (l.take 13) (bodyQ l) (by rw [hz])

theorem good_10 (l : List UInt8) (h : Good l) (hop : (headR l).op = 10) : (fieldsS (⟨0, l.take 13, 13, false⟩, bodyQ l)).1.bad = false ∧ (fieldsS (⟨0, l.take 13, 13, false⟩, bodyQ l)).1.l = l.take 13 ++ l.drop 13 := by
  have hr : (l.drop 13).length = 0 := by
    have h1 := h.lo
    have h2 := h.hi (by rw [hop]; decide)
    have h3 : fieldsN 10 = 0 := rfl
    rw [hop, h3] at h1 h2
    rw [List.length_drop]
    omega
  have hz := show bodyQ l = withR (headR l) (cutN (l.drop 13) (widths (headR l).op)) (if (headR l).op = 3 then l.drop 13 else []) from rfl
  simp only [withR, hop, widths] at hz
  simp only [reduceIte, Int.reduceEq] at hz
  exact write_10 (headR l) hop (l.drop 13) hr  (l.take 13) (bodyQ l) (by rw [hz])

theorem good_11 (l : List UInt8) (h : Good l) (hop : (headR l).op = 11) : (fieldsS (⟨0, l.take 13, 13, false⟩, bodyQ l)).1.bad = false ∧ (fieldsS (⟨0, l.take 13, 13, false⟩, bodyQ l)).1.l = l.take 13 ++ l.drop 13 := by
  have hr : (l.drop 13).length = 0 := by
    have h1 := h.lo
    have h2 := h.hi (by rw [hop]; decide)
    have h3 : fieldsN 11 = 0 := rfl
    rw [hop, h3] at h1 h2
    rw [List.length_drop]
    omega
  have hz := show bodyQ l = withR (headR l) (cutN (l.drop 13) (widths (headR l).op)) (if (headR l).op = 3 then l.drop 13 else []) from rfl
  simp only [withR, hop, widths] at hz
  simp only [reduceIte, Int.reduceEq] at hz
  exact write_11 (headR l) hop (l.drop 13) hr  (l.take 13) (bodyQ l) (by rw [hz])

theorem good_12 (l : List UInt8) (h : Good l) (hop : (headR l).op = 12) : (fieldsS (⟨0, l.take 13, 13, false⟩, bodyQ l)).1.bad = false ∧ (fieldsS (⟨0, l.take 13, 13, false⟩, bodyQ l)).1.l = l.take 13 ++ l.drop 13 := by
  have hr : (l.drop 13).length = 0 := by
    have h1 := h.lo
    have h2 := h.hi (by rw [hop]; decide)
    have h3 : fieldsN 12 = 0 := rfl
    rw [hop, h3] at h1 h2
    rw [List.length_drop]
    omega
  have hz := show bodyQ l = withR (headR l) (cutN (l.drop 13) (widths (headR l).op)) (if (headR l).op = 3 then l.drop 13 else []) from rfl
  simp only [withR, hop, widths] at hz
  simp only [reduceIte, Int.reduceEq] at hz
  exact write_12 (headR l) hop (l.drop 13) hr  (l.take 13) (bodyQ l) (by rw [hz])

theorem good_13 (l : List UInt8) (h : Good l) (hop : (headR l).op = 13) : (fieldsS (⟨0, l.take 13, 13, false⟩, bodyQ l)).1.bad = false ∧ (fieldsS (⟨0, l.take 13, 13, false⟩, bodyQ l)).1.l = l.take 13 ++ l.drop 13 := by
  have hr : (l.drop 13).length = 8 := by
    have h1 := h.lo
    have h2 := h.hi (by rw [hop]; decide)
    have h3 : fieldsN 13 = 8 := rfl
    rw [hop, h3] at h1 h2
    rw [List.length_drop]
    omega
  have hz := show bodyQ l = withR (headR l) (cutN (l.drop 13) (widths (headR l).op)) (if (headR l).op = 3 then l.drop 13 else []) from rfl
  simp only [withR, hop, widths] at hz
  simp only [reduceIte, Int.reduceEq] at hz
  exact write_13 (headR l) hop (l.drop 13) hr  (l.take 13) (bodyQ l) (by rw [hz]; simp [cutN, hop, List.drop_drop])

theorem good_14 (l : List UInt8) (h : Good l) (hop : (headR l).op = 14) : (fieldsS (⟨0, l.take 13, 13, false⟩, bodyQ l)).1.bad = false ∧ (fieldsS (⟨0, l.take 13, 13, false⟩, bodyQ l)).1.l = l.take 13 ++ l.drop 13 := by
  have hr : (l.drop 13).length = 4 := by
    have h1 := h.lo
    have h2 := h.hi (by rw [hop]; decide)
    have h3 : fieldsN 14 = 4 := rfl
    rw [hop, h3] at h1 h2
    rw [List.length_drop]
    omega
  have hz := show bodyQ l = withR (headR l) (cutN (l.drop 13) (widths (headR l).op)) (if (headR l).op = 3 then l.drop 13 else []) from rfl
  simp only [withR, hop, widths] at hz
  simp only [reduceIte, Int.reduceEq] at hz
  exact write_14 (headR l) hop (l.drop 13) hr  (l.take 13) (bodyQ l) (by rw [hz]; simp [cutN, hop, List.drop_drop])

theorem good_15 (l : List UInt8) (h : Good l) (hop : (headR l).op = 15) : (fieldsS (⟨0, l.take 13, 13, false⟩, bodyQ l)).1.bad = false ∧ (fieldsS (⟨0, l.take 13, 13, false⟩, bodyQ l)).1.l = l.take 13 ++ l.drop 13 := by
  have hr : (l.drop 13).length = 8 := by
    have h1 := h.lo
    have h2 := h.hi (by rw [hop]; decide)
    have h3 : fieldsN 15 = 8 := rfl
    rw [hop, h3] at h1 h2
    rw [List.length_drop]
    omega
  have hz := show bodyQ l = withR (headR l) (cutN (l.drop 13) (widths (headR l).op)) (if (headR l).op = 3 then l.drop 13 else []) from rfl
  simp only [withR, hop, widths] at hz
  simp only [reduceIte, Int.reduceEq] at hz
  exact write_15 (headR l) hop (l.drop 13) hr  (l.take 13) (bodyQ l) (by rw [hz]; simp [cutN, hop, List.drop_drop])

theorem good_16 (l : List UInt8) (h : Good l) (hop : (headR l).op = 16) : (fieldsS (⟨0, l.take 13, 13, false⟩, bodyQ l)).1.bad = false ∧ (fieldsS (⟨0, l.take 13, 13, false⟩, bodyQ l)).1.l = l.take 13 ++ l.drop 13 := by
  have hr : (l.drop 13).length = 4 := by
    have h1 := h.lo
    have h2 := h.hi (by rw [hop]; decide)
    have h3 : fieldsN 16 = 4 := rfl
    rw [hop, h3] at h1 h2
    rw [List.length_drop]
    omega
  have hz := show bodyQ l = withR (headR l) (cutN (l.drop 13) (widths (headR l).op)) (if (headR l).op = 3 then l.drop 13 else []) from rfl
  simp only [withR, hop, widths] at hz
  simp only [reduceIte, Int.reduceEq] at hz
  exact write_16 (headR l) hop (l.drop 13) hr  (l.take 13) (bodyQ l) (by rw [hz]; simp [cutN, hop, List.drop_drop])

theorem good_17 (l : List UInt8) (h : Good l) (hop : (headR l).op = 17) : (fieldsS (⟨0, l.take 13, 13, false⟩, bodyQ l)).1.bad = false ∧ (fieldsS (⟨0, l.take 13, 13, false⟩, bodyQ l)).1.l = l.take 13 ++ l.drop 13 := by
  have hr : (l.drop 13).length = 2 := by
    have h1 := h.lo
    have h2 := h.hi (by rw [hop]; decide)
    have h3 : fieldsN 17 = 2 := rfl
    rw [hop, h3] at h1 h2
    rw [List.length_drop]
    omega
  have hz := show bodyQ l = withR (headR l) (cutN (l.drop 13) (widths (headR l).op)) (if (headR l).op = 3 then l.drop 13 else []) from rfl
  simp only [withR, hop, widths] at hz
  simp only [reduceIte, Int.reduceEq] at hz
  exact write_17 (headR l) hop (l.drop 13) hr  (l.take 13) (bodyQ l) (by rw [hz]; simp [cutN, hop])

theorem good_18 (l : List UInt8) (h : Good l) (hop : (headR l).op = 18) : (fieldsS (⟨0, l.take 13, 13, false⟩, bodyQ l)).1.bad = false ∧ (fieldsS (⟨0, l.take 13, 13, false⟩, bodyQ l)).1.l = l.take 13 ++ l.drop 13 := by
  have hr : (l.drop 13).length = 0 := by
    have h1 := h.lo
    have h2 := h.hi (by rw [hop]; decide)
    have h3 : fieldsN 18 = 0 := rfl
    rw [hop, h3] at h1 h2
    rw [List.length_drop]
    omega
  have hz := show bodyQ l = withR (headR l) (cutN (l.drop 13) (widths (headR l).op)) (if (headR l).op = 3 then l.drop 13 else []) from rfl
  simp only [withR, hop, widths] at hz
  simp only [reduceIte, Int.reduceEq] at hz
  exact write_18 (headR l) hop (l.drop 13) hr  (l.take 13) (bodyQ l) (by rw [hz])

theorem good_19 (l : List UInt8) (h : Good l) (hop : (headR l).op = 19) : (fieldsS (⟨0, l.take 13, 13, false⟩, bodyQ l)).1.bad = false ∧ (fieldsS (⟨0, l.take 13, 13, false⟩, bodyQ l)).1.l = l.take 13 ++ l.drop 13 := by
  have hr : (l.drop 13).length = 4 := by
    have h1 := h.lo
    have h2 := h.hi (by rw [hop]; decide)
    have h3 : fieldsN 19 = 4 := rfl
    rw [hop, h3] at h1 h2
    rw [List.length_drop]
    omega
  have hz := show bodyQ l = withR (headR l) (cutN (l.drop 13) (widths (headR l).op)) (if (headR l).op = 3 then l.drop 13 else []) from rfl
  simp only [withR, hop, widths] at hz
  simp only [reduceIte, Int.reduceEq] at hz
  exact write_19 (headR l) hop (l.drop 13) hr  (l.take 13) (bodyQ l) (by rw [hz]; simp [cutN, hop, List.drop_drop])

/-- What is decoded is encoded as it stood. -/
theorem good_enc {l : List UInt8} (h : Good l) : encBad (bodyQ l) = false ∧ encL (bodyQ l) = l := by
  have hh := withR_head (headR l) (cutN (l.drop 13) (widths (headR l).op)) (if (headR l).op = 3 then l.drop 13 else [])
  have ha := ahead_write h.len h.m (bodyQ l) hh.op hh.tenant hh.user hh.secret hh.m
  have hf : (fieldsS (⟨0, l.take 13, 13, false⟩, bodyQ l)).1.bad = false ∧ (fieldsS (⟨0, l.take 13, 13, false⟩, bodyQ l)).1.l = l.take 13 ++ l.drop 13 := by
    rcases isOp_cases h.op with e | e | e | e | e | e | e | e | e | e | e | e | e | e | e | e | e | e | e
    · exact good_1 l h e
    · exact good_2 l h e
    · exact good_3 l h e
    · exact good_4 l h e
    · exact good_5 l h e
    · exact good_6 l h e
    · exact good_7 l h e
    · exact good_8 l h e
    · exact good_9 l h e
    · exact good_10 l h e
    · exact good_11 l h e
    · exact good_12 l h e
    · exact good_13 l h e
    · exact good_14 l h e
    · exact good_15 l h e
    · exact good_16 l h e
    · exact good_17 l h e
    · exact good_18 l h e
    · exact good_19 l h e
  unfold encBad encL encS
  rw [ha, hf.1, hf.2, List.take_append_drop]
  exact ⟨rfl, rfl⟩
theorem good_encE {l : List UInt8} (h : Good l) : encOk (bodyQ l) = true ∧ encE (bodyQ l) = 0 := by
  obtain ⟨h1, h2⟩ := good_enc h
  have hd : dec l = (bodyQ l, 0) := by rw [dec_eq]; exact (rdec_iff _ _).2 ⟨h, rfl⟩
  have h3 : encOk (bodyQ l) = true := by
    unfold encOk reqEq
    rw [h1, h2, hd]
    simp
  refine ⟨h3, ?_⟩
  unfold encE
  rw [bodyQ_op, h.op, h3]
  rfl
/-- What is encoded is decoded as it was. -/
theorem enc_good {q : Req} (h : encOk q = true) : Good (encL q) ∧ q = bodyQ (encL q) := by
  unfold encOk reqEq at h
  simp only [Bool.and_eq_true, decide_eq_true_eq] at h
  have e : dec (encL q) = (q, 0) := Prod.ext h.1.2 h.2
  rw [dec_eq] at e
  exact (rdec_iff _ _).1 e
theorem encE_ok {q : Req} (h : encE q = 0) : encOk q = true := by
  unfold encE at h
  split at h
  · cases h
  · split at h
    · rename_i h2
      exact h2
    · cases h
end Go.Proofs.YtldjgpnbkbmgoaaGreatDoor
