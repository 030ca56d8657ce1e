/-
  The program's Read. Conditions: the text is shorter than 4294967281 bytes.
-/
import Derived.Test.YtldjgpnbkbmgoaaGreatDoorSplit
namespace Go.Proofs.YtldjgpnbkbmgoaaGreatDoor
open Go.RowKit

def BegPost (w : World) (l : List UInt8) (e : Ending) (w' : World) : Prop := e = .returned (.pointer (some ⟨w.heap.size + 1, 0, none⟩)) ∧ Rd w' (w.heap.size + 1) (splitL l, false) ∧ Below w.heap.size w w'
set_option maxRecDepth 100000 in
theorem begin_ok (l : List UInt8) (w : World) (hl : l.length < 4294967281) : Calls Tryz.prog 58 #[strV l] w (BegPost w l) := by
  have hb1 := Blk.new w 9 (wordsC (splitL l))
  have hW1 := (Below.refl w.heap.size w).alloc (Nat.le_refl _) (.cells (wordsC (splitL l)) 9)
  have hz : (w.alloc (.cells (wordsC (splitL l)) 9)).heap.size = w.heap.size + 1 := by simp
  obtain ⟨f1, f2⟩ := splitL_few l
  have hl2 : (splitL l).length ≤ maxLen := by unfold maxLen; omega
  obtain ⟨w1, hst⟩ : ∃ w1, w.alloc (.cells (wordsC (splitL l)) 9) = w1 := ⟨_, rfl⟩
  rw [hst] at hb1 hW1 hz
  have hS : Sl stC w1 (w.heap.size + 1) (.slice (some ⟨w.heap.size, 0, none⟩) (splitL l).length (splitL l).length) (splitL l) :=
    ⟨_, _, rfl, Nat.le_refl _, hl2, fun _ => ⟨_, 0, rfl, by omega, by rw [← words_flat]; exact hb1.lay⟩⟩
  have HS := Lib.hid hS
  have HW := Lib.hid hW1
  have HF := Lib.hid f2
  clear hS hb1 hW1 f1 f2 hl2
  go_enter Tryz.func58, Tryz.ntmps58
  go_wp2_with fail
  refine (split_ok l w hl).mono ?_
  rintro e w' ⟨rfl, hw⟩
  rw [hw, hst]
  go_wp2
  go_ret
  refine ⟨rfl, ⟨some ⟨w.heap.size, 0, none⟩, (splitL l).length, ?_, ?_, ?_⟩, HW.out.alloc (by omega) _⟩
  · have := Blk.new w1 115 #[.slice (some ⟨w.heap.size, 0, none⟩) (splitL l).length (splitL l).length, .bool false]
    rw [hz] at this
    exact this
  · exact HS.out.keep fun b hb => Below.heap_alloc w1 _ b (by omega)
  · intro x hx
    have := HF.out x hx
    omega

/-- Where a word stands among words. -/
def atF (t : List UInt8) (k : Nat) : List (List UInt8) → Int
  | [] => -1
  | x :: r => if x = t then (k : Int) else atF t (k + 1) r
theorem atF_range (t : List UInt8) : ∀ (l : List (List UInt8)) (k : Nat), -1 ≤ atF t k l ∧ (atF t k l < (k + l.length : Nat) ∨ l = [])
  | [], k => by simp [atF]
  | x :: r, k => by
    have := atF_range t r (k + 1)
    unfold atF
    split
    · simp; omega
    · refine ⟨this.1, .inl ?_⟩
      rcases this.2 with h | h
      · simp at h ⊢; omega
      · subst h
        simp [atF]
        omega
theorem ret_i {a b : Int} (h : a = b) : Ending.returned (.int .i64 a) = .returned (.int .i64 b) := by rw [h]

set_option maxRecDepth 100000 in
set_option maxHeartbeats 1000000 in
theorem at_ok (l : List (List UInt8)) (t : List UInt8) (b : Nat) (w : World) (hb : Blk w b 9 (wordsC l)) (hl : l.length ≤ 1000) : Calls Tryz.prog 61 #[.slice (some ⟨b, 0, none⟩) l.length l.length, strV t] w fun e w' => e = .returned (.int .i64 (atF t 0 l)) ∧ w' = w := by
  have hlay : Lay w b 0 (l.flatMap stC) := by rw [← words_flat]; exact hb.lay
  have HL := Lib.hid hlay
  clear hlay hb
  go_enter Tryz.func61, Tryz.ntmps61
  go_wp2
  go_loop [9] (fun iv => ∃ k, k ≤ l.length ∧ iv = .int .i64 (k : Nat) ∧ atF t 0 l = atF t k (l.drop k)) (fun iv => (l.length - intOf iv).toNat)
  case atStart => exact ⟨0, Nat.zero_le _, rfl, rfl⟩
  case round =>
    obtain ⟨k, hk, rfl, hat⟩ := hrel
    by_cases hlt : k < l.length
    · have x0 := (HL.out.elem stC_len k hlt).st
      rw [Nat.mul_one, Nat.zero_add] at x0
      have hd : atF t 0 l = if l[k] = t then (k : Int) else atF t (k + 1) (l.drop (k + 1)) := by rw [hat, List.drop_eq_getElem_cons hlt]; rfl
      obtain ⟨x, hx⟩ : ∃ x, x = l[k] := ⟨_, rfl⟩
      rw [← hx] at hd x0
      have HD := Lib.hid hd
      clear hd hat hx
      have hlti : (k : Int) < (l.length : Int) := by omega
      by_cases hxt : x = t
      · have hbq : (x == t) = true := by simpa using hxt
        have hf : atF t 0 l = (k : Int) := by rw [HD.out, if_pos hxt]
        have HF := Lib.hid hf
        clear hf hxt
        go_wp2
        go_ret
        exact ⟨ret_i HF.out.symm, rfl⟩
      · have hbq : (x == t) = false := by simpa using hxt
        have hf : atF t 0 l = atF t (k + 1) (l.drop (k + 1)) := by rw [HD.out, if_neg hxt]
        have HF := Lib.hid hf
        clear hf hxt
        go_wp2
        go_round
        case rel => exact ⟨k + 1, by omega, by go_num, HF.out⟩
        case measure => simp [intOf]; omega
    · obtain rfl : k = l.length := by omega
      have hf : atF t 0 l = -1 := by rw [hat, List.drop_length]; rfl
      have HF := Lib.hid hf
      clear hf hat
      go_wp2
      go_ret
      exact ⟨ret_i HF.out.symm, rfl⟩

/-- What Read makes of a line's words; -/
def readS (l : List UInt8) : Req × RSt :=
  let a := rNum (splitL l, false)
  let b := rNum a.2
  let c := rSec b.2
  let d := rNum c.2
  let e := rW d.2
  rF ({ zeroR (atF e.1 0 opsL + 1) with tenant := (a.1 : Nat), user := (b.1 : Nat), secret := c.1, m := (d.1 : Nat) }, e.2)
/-- what it hands back. -/
def readQ (l : List UInt8) : Req × Int := if (readS l).2.2 = false ∧ encOk (readS l).1 = true ∧ lineQ (readS l).1 = l then ((readS l).1, 0) else (zeroR 0, 60)
theorem grow_row (w : World) (g : Nat) (cs : Array Value) : w.grownBy (w.setRow g cs) (some g) := by
  have h := below_setRow (Below.refl 0 w) (Nat.zero_le g) cs
  exact ⟨h.os, h.tape, h.output, h.size, fun k _ hk => setRow_other w g k cs (fun e => hk (by rw [e]))⟩
theorem atF_ops (t : List UInt8) : -1 ≤ atF t 0 opsL ∧ atF t 0 opsL ≤ 18 := by
  have h := atF_range t opsL 0
  refine ⟨h.1, ?_⟩
  rcases h.2 with h | h
  · have : opsL.length = 19 := rfl
    omega
  · cases h
theorem rNum_len (s : RSt) (n : Nat) (h : ∀ x ∈ s.1, x.length ≤ n) : ∀ x ∈ (rNum s).2.1, x.length ≤ n := by
  intro x hx
  unfold rNum rLong at hx
  split at hx <;> exact (rW_len s _ h).2 x hx
theorem readS_fit (l : List UInt8) : RFit (readS l) l.length := by
  have h1 := rNum_len (splitL l, false) l.length (splitL_few l).2
  have h2 := rNum_len _ _ h1
  have h3 := (rW_len _ _ h2).2
  have h4 := rNum_len (rSec (rNum (rNum (splitL l, false)).2).2).2 _ h3
  have h5 := (rW_len _ _ h4).2
  unfold readS
  exact rF_fit ⟨⟨Nat.lt_of_lt_of_eq (rhex_lt _) (by decide), by show 0 < 256 ^ 8; decide, by show 0 < 256 ^ 8; decide⟩, by simp [zeroR], h5⟩
theorem lineE_neq (q : Req) : (lineE q != 0) = !encOk q := by
  unfold lineE
  cases encOk q <;> rfl

set_option maxRecDepth 100000 in
set_option maxHeartbeats 4000000 in
theorem Read_ok (l : List UInt8) (w : World) (hl : l.length < 4294967281) : Calls Tryz.prog 39 #[strV l] w (DPost w (readQ l)) := by
  have hfit := Lib.hid (readS_fit l)
  have hb0 := Blk.new w 60 zeroC
  have hW0 := (Below.refl w.heap.size w).alloc (Nat.le_refl _) (.cells zeroC 60)
  have hz0 : (w.alloc (.cells zeroC 60)).heap.size = w.heap.size + 1 := by simp
  obtain ⟨w0, hst0⟩ : ∃ w0, w.alloc (.cells zeroC 60) = w0 := ⟨_, rfl⟩
  rw [hst0] at hb0 hW0 hz0
  obtain ⟨r0, hr0⟩ : ∃ r0, r0 = w.heap.size := ⟨_, rfl⟩
  rw [← hr0] at hb0
  have HB0 := Lib.hid hb0
  have HW := Lib.hid hW0
  have HR0 := Lib.hid hr0
  clear hb0 hW0
  go_enter Tryz.func39, Tryz.ntmps39
  go_wp2_with fail
  refine (begin_ok l w0 hl).mono ?_
  rintro e w1 ⟨rfl, h1, h2⟩
  obtain ⟨g, hg⟩ : ∃ g, g = w0.heap.size + 1 := ⟨_, rfl⟩
  rw [← hg] at h1 ⊢
  have hgr : r0 < g := by omega
  have HB0 := Lib.hid (HB0.out.below h2 (by omega))
  have HW := Lib.hid (HW.out.trans (h2.mono (by omega)))
  have HD := Lib.hid h1
  have hwg : w.heap.size ≤ g := by omega
  clear h1 h2 hg hz0 hr0
  go_wp2_with fail
  obtain ⟨p0, hp0⟩ : ∃ p0, p0 = (splitL l, false) := ⟨_, rfl⟩
  rw [← hp0] at HD
  have HP0 := Lib.hid hp0
  clear hp0
  refine (number_rd _ g p0 HD.out).mono ?_
  rintro e w2 ⟨rfl, h1, h2⟩
  have HB0 := Lib.hid (HB0.out.grown h2 (fun e => by have := Option.some.inj e; omega))
  have HW := Lib.hid (HW.out.trans (below_of_grown h2 HW.out.size (fun k hk => by have := Option.some.inj hk; omega)))
  obtain ⟨a, ha⟩ : ∃ a, a = rNum p0 := ⟨_, rfl⟩
  rw [← ha] at h1 ⊢
  have HD := Lib.hid h1
  have HA := Lib.hid ha
  clear h1 h2 ha
  go_wp2_with fail
  refine (number_rd _ g a.2 HD.out).mono ?_
  rintro e w3 ⟨rfl, h1, h2⟩
  have HB0 := Lib.hid (HB0.out.grown h2 (fun e => by have := Option.some.inj e; omega))
  have HW := Lib.hid (HW.out.trans (below_of_grown h2 HW.out.size (fun k hk => by have := Option.some.inj hk; omega)))
  obtain ⟨b, hb⟩ : ∃ b, b = rNum a.2 := ⟨_, rfl⟩
  rw [← hb] at h1 ⊢
  have HD := Lib.hid h1
  have HBb := Lib.hid hb
  clear h1 h2 hb
  obtain ⟨t, ht⟩ : ∃ t, t = w3.heap.size := ⟨_, rfl⟩
  have hgt : g < t := by have := HD.out.lt; omega
  have hrt : r0 < t := by omega
  have hwt : w.heap.size ≤ t := by omega
  have hb4 := Blk.new w3 60 zeroC
  have HB0 := Lib.hid (HB0.out.alloc (.cells zeroC 60))
  have HW := Lib.hid (HW.out.alloc HW.out.size (.cells zeroC 60))
  have HD := Lib.hid (HD.out.keep ((Below.refl w3.heap.size w3).alloc (Nat.le_refl _) (.cells zeroC 60)))
  obtain ⟨w4, hst4⟩ : ∃ w4, w3.alloc (.cells zeroC 60) = w4 := ⟨_, rfl⟩
  rw [hst4, ← ht] at hb4
  rw [hst4] at HB0 HW HD
  have HT := Lib.hid hb4
  have ht' := ht.symm
  clear hb4 ht
  go_wp2_with (refine wpList_store_row rfl 60 (.tmp 5) (.tmp 14) rfl t (rqC ({ zeroR 0 with tenant := (a.1 : Nat), user := (b.1 : Nat) } : Req)) rfl rfl 60 zeroC HT.out zero_size rfl (rq_one _) ?_)
  obtain ⟨q0, hq0⟩ : ∃ q0, q0 = ({ zeroR 0 with tenant := (a.1 : Nat), user := (b.1 : Nat) } : Req) := ⟨_, rfl⟩
  rw [← hq0]
  have hg5 := grow_row w4 t (rqC q0)
  have HB0 := Lib.hid (HB0.out.farRow (show r0 ≠ t by omega) (rqC q0))
  have HW := Lib.hid (below_setRow HW.out hwt (rqC q0))
  have HD := Lib.hid (HD.out.far hg5 hgt)
  have HT := Lib.hid (HT.out.row (rqC q0))
  have HQ0 := Lib.hid hq0
  obtain ⟨w5, hst5⟩ : ∃ w5, w4.setRow t (rqC q0) = w5 := ⟨_, rfl⟩
  rw [hst5] at HB0 HW HD HT ⊢
  clear hg5 hq0 hst5 hst4
  -- the secret
  refine (secret_rd w5 g b.2 HD.out).mono ?_
  rintro e w6 ⟨rfl, h1, h2⟩
  have hw2 := HW.out.trans (below_of_grown h2 HW.out.size (fun k hk => by have := Option.some.inj hk; omega))
  have HB0 := Lib.hid (HB0.out.grown h2 (fun e => by have := Option.some.inj e; omega))
  have hT := HT.out.grown h2 (fun e => by have := Option.some.inj e; omega)
  obtain ⟨c, hc⟩ : ∃ c, c = rSec b.2 := ⟨_, rfl⟩
  rw [← hc] at h1 ⊢
  have HC := Lib.hid hc
  have d0 := (show World.cell? _ ⟨t, 3, none⟩ = some (.int .u64 (q0.secret : Nat)) from hT.is 3 rfl)
  have g0 := hT.frozen 3
  have HD := Lib.hid (h1.far (grow_set _ t 3 (.int .u64 (c.1 : Nat))) hgt)
  have HT := Lib.hid (show Blk _ t 60 (rqC { q0 with secret := c.1 }) from hT.put 3 (.int .u64 (c.1 : Nat)))
  have HB0 := Lib.hid (HB0.out.far (p := ⟨t, 3, none⟩) (by show r0 ≠ t; omega) (.int .u64 (c.1 : Nat)))
  have HW := Lib.hid (hw2.setCell (p := ⟨t, 3, none⟩) hwt (.int .u64 (c.1 : Nat)))
  obtain ⟨q1, hq1⟩ : ∃ q1, q1 = ({ q0 with secret := c.1 } : Req) := ⟨_, rfl⟩
  rw [← hq1] at HT
  have HQ1 := Lib.hid hq1
  obtain ⟨w7, hst7⟩ : ∃ w7, w6.setCell ⟨t, 3, none⟩ (.int .u64 (c.1 : Nat)) = w7 := ⟨_, rfl⟩
  rw [hst7] at HD HT HB0 HW
  clear h1 h2 hw2 hT hc hq1
  go_wp2_with fail
  -- m
  clear d0 g0 hst7
  refine (number_rd w7 g c.2 HD.out).mono ?_
  rintro e w8 ⟨rfl, h1, h2⟩
  have hw2 := HW.out.trans (below_of_grown h2 HW.out.size (fun k hk => by have := Option.some.inj hk; omega))
  have HB0 := Lib.hid (HB0.out.grown h2 (fun e => by have := Option.some.inj e; omega))
  have hT := HT.out.grown h2 (fun e => by have := Option.some.inj e; omega)
  obtain ⟨d, hd⟩ : ∃ d, d = rNum c.2 := ⟨_, rfl⟩
  rw [← hd] at h1 ⊢
  have HDd := Lib.hid hd
  have d0 := (show World.cell? _ ⟨t, 4, none⟩ = some (.int .i64 q1.m) from hT.is 4 rfl)
  have g0 := hT.frozen 4
  have HD := Lib.hid (h1.far (grow_set _ t 4 (.int .i64 (d.1 : Nat))) hgt)
  have HT := Lib.hid (show Blk _ t 60 (rqC { q1 with m := (d.1 : Nat) }) from hT.put 4 (.int .i64 (d.1 : Nat)))
  have HB0 := Lib.hid (HB0.out.far (p := ⟨t, 4, none⟩) (by show r0 ≠ t; omega) (.int .i64 (d.1 : Nat)))
  have HW := Lib.hid (hw2.setCell (p := ⟨t, 4, none⟩) hwt (.int .i64 (d.1 : Nat)))
  obtain ⟨q2, hq2⟩ : ∃ q2, q2 = ({ q1 with m := (d.1 : Nat) } : Req) := ⟨_, rfl⟩
  rw [← hq2] at HT
  have HQ2 := Lib.hid hq2
  obtain ⟨w9, hst9⟩ : ∃ w9, w8.setCell ⟨t, 4, none⟩ (.int .i64 (d.1 : Nat)) = w9 := ⟨_, rfl⟩
  rw [hst9] at HD HT HB0 HW
  clear h1 h2 hw2 hT hd hq2
  go_wp2_with fail
  clear d0 g0 hst9
  -- the operation's word
  refine (ops_ok w9).mono ?_
  rintro e w' ⟨rfl, hw'⟩
  rw [hw']
  clear hw' w'
  have hTab := Blk.new w9 9 (wordsC opsL)
  have hlt9 := HT.out.lt
  have HB0 := Lib.hid (HB0.out.alloc (.cells (wordsC opsL) 9))
  have HT := Lib.hid (HT.out.alloc (.cells (wordsC opsL) 9))
  have HW := Lib.hid (HW.out.alloc HW.out.size (.cells (wordsC opsL) 9))
  have HD := Lib.hid (HD.out.keep ((Below.refl w9.heap.size w9).alloc (Nat.le_refl _) (.cells (wordsC opsL) 9)))
  obtain ⟨tb, htb⟩ : ∃ tb, tb = w9.heap.size := ⟨_, rfl⟩
  obtain ⟨w10, hst10⟩ : ∃ w10, w9.alloc (.cells (wordsC opsL) 9) = w10 := ⟨_, rfl⟩
  rw [hst10, ← htb] at hTab
  rw [hst10] at HB0 HT HW HD ⊢
  rw [← htb]
  have hgb : g < tb := by omega
  have HTab := Lib.hid hTab
  clear hTab hst10 htb hlt9
  go_wp2_with fail
  refine (word_ok w10 g d.2 HD.out).mono ?_
  rintro e w11 ⟨rfl, h1, h2⟩
  have HW := Lib.hid (HW.out.trans (below_of_grown h2 HW.out.size (fun k hk => by have := Option.some.inj hk; omega)))
  have HB0 := Lib.hid (HB0.out.grown h2 (fun e => by have := Option.some.inj e; omega))
  have HT := Lib.hid (HT.out.grown h2 (fun e => by have := Option.some.inj e; omega))
  have HTab := Lib.hid (HTab.out.grown h2 (fun e => by have := Option.some.inj e; omega))
  obtain ⟨f, hf⟩ : ∃ f, f = rW d.2 := ⟨_, rfl⟩
  rw [← hf] at h1 ⊢
  have HF := Lib.hid hf
  have HD := Lib.hid h1
  clear h1 h2 hf
  go_wp2_with fail
  refine (at_ok opsL f.1 tb w11 HTab.out (by decide)).mono ?_
  rintro e w' ⟨rfl, hw'⟩
  rw [hw']
  clear hw' w'
  obtain ⟨x, hx⟩ : ∃ x, x = atF f.1 0 opsL := ⟨_, rfl⟩
  have hx1 : -1 ≤ x := by rw [hx]; exact (atF_ops _).1
  have hx2 : x ≤ 18 := by rw [hx]; exact (atF_ops _).2
  rw [← hx]
  have HX := Lib.hid hx
  have d0 := (show World.cell? _ ⟨t, 0, none⟩ = some (.int .i64 q2.op) from HT.out.is 0 rfl)
  have g0 := HT.out.frozen 0
  have HD := Lib.hid (HD.out.far (grow_set _ t 0 (.int .i64 (x + 1))) hgt)
  have HT := Lib.hid (show Blk _ t 60 (rqC { q2 with op := x + 1 }) from HT.out.put 0 (.int .i64 (x + 1)))
  have HB0 := Lib.hid (HB0.out.far (p := ⟨t, 0, none⟩) (by show r0 ≠ t; omega) (.int .i64 (x + 1)))
  have HW := Lib.hid (HW.out.setCell (p := ⟨t, 0, none⟩) hwt (.int .i64 (x + 1)))
  obtain ⟨q3, hq3⟩ : ∃ q3, q3 = ({ q2 with op := x + 1 } : Req) := ⟨_, rfl⟩
  have ho3 : 0 ≤ q3.op ∧ q3.op ≤ 19 := by rw [hq3]; exact ⟨by show 0 ≤ x + 1; omega, by show x + 1 ≤ 19; omega⟩
  rw [← hq3] at HT
  have HQ3 := Lib.hid hq3
  have HO3 := Lib.hid ho3
  obtain ⟨w12, hst12⟩ : ∃ w12, w11.setCell ⟨t, 0, none⟩ (.int .i64 (x + 1)) = w12 := ⟨_, rfl⟩
  rw [hst12] at HD HT HB0 HW
  clear hx hq3 ho3
  go_wp2_with fail
  clear d0 g0 hst12
  -- the fields
  refine (rfields_rd w12 g f.2 HD.out t q3 HT.out hgt HO3.out).mono ?_
  rintro e w13 ⟨rfl, h1, h2, h3⟩
  have HW := Lib.hid (HW.out.trans (h3.below hwg hwt HW.out.size))
  have HB0 := Lib.hid (h3.blk HB0.out (by omega) (by omega))
  have hS : rF (q3, f.2) = readS l := by
    rw [HQ3.out, HQ2.out, HQ1.out, HQ0.out, HX.out, HF.out, HDd.out, HC.out, HBb.out, HA.out, HP0.out]
    rfl
  rw [hS] at h1 h2
  obtain ⟨p, hp⟩ : ∃ p, p = readS l := ⟨_, rfl⟩
  rw [← hp] at h1 h2 hfit
  have HD := Lib.hid h1
  have HT := Lib.hid (show Blk _ t 60 (rqC p.1) from h2)
  have HP := Lib.hid hp
  have hfits : p.1.fits := ⟨hfit.out.ok, by have := hfit.out.tx; omega⟩
  have HFT := Lib.hid hfits
  clear h1 h2 h3 hS hp hfits
  go_wp2_with (refine wpList_load_row rfl 60 (.tmp 5) rfl t rfl 60 (rqC p.1) (0, 0) _ HT.out Tryz.underlying60 rfl (rq_size _) ?_)
  refine (Line_ok p.1 w13 HFT.out).mono ?_
  rintro e w14 ⟨rfl, h1⟩
  have HW := Lib.hid (HW.out.trans (h1.mono HW.out.size))
  have HB0 := Lib.hid (HB0.out.below h1 HB0.out.lt)
  have HD := Lib.hid (HD.out.keep h1)
  have HT := Lib.hid (HT.out.below h1 HT.out.lt)
  obtain ⟨c1, f1⟩ := HD.out.cells
  clear h1 f1
  have HZ := Lib.hid (show Blk w14 w.heap.size 60 zeroC from by rw [← HR0.out]; exact HB0.out)
  have hbad : (p.2.2 = true ∨ encOk p.1 = false ∨ lineQ p.1 ≠ l) → readQ l = (zeroR 0, 60) := fun h => by
    unfold readQ
    rw [← HP.out, if_neg]
    rintro ⟨e1, e2, e3⟩
    rcases h with h | h | h
    · rw [e1] at h; cases h
    · rw [e2] at h; cases h
    · exact h e3
  have hgood : p.2.2 = false → encOk p.1 = true → lineQ p.1 = l → readQ l = (p.1, 0) := fun e1 e2 e3 => by
    unfold readQ
    rw [← HP.out, if_pos ⟨e1, e2, e3⟩]
  have hT0 : encOk p.1 = true → lineT p.1 = lineQ p.1 := fun e => by unfold lineT; rw [if_pos e]
  have hE0 : encOk p.1 = true → lineE p.1 = 0 := fun e => by unfold lineE; rw [if_pos e]
  have hE1 : encOk p.1 = false → lineE p.1 = 1 := fun e => by unfold lineE; rw [if_neg (by rw [e]; decide)]
  obtain ⟨T, hT⟩ : ∃ T, T = lineT p.1 := ⟨_, rfl⟩
  obtain ⟨E, hE⟩ : ∃ E, E = lineE p.1 := ⟨_, rfl⟩
  obtain ⟨bd, hbd⟩ : ∃ bd, bd = p.2.2 := ⟨_, rfl⟩
  rw [← hT, ← hE]
  rw [← hbd] at c1 hbad hgood
  rw [← hT] at hT0
  rw [← hE] at hE0 hE1
  clear hT hE hbd
  have hcase : (bd = true ∧ readQ l = (zeroR 0, 60)) ∨ (bd = false ∧ E = 1 ∧ readQ l = (zeroR 0, 60)) ∨ (bd = false ∧ E = 0 ∧ (T == l) = false ∧ (T != l) = true ∧ readQ l = (zeroR 0, 60)) ∨ (bd = false ∧ E = 0 ∧ (T == l) = true ∧ (T != l) = false ∧ readQ l = (p.1, 0)) := by
    cases bd
    · cases he : encOk p.1
      · exact .inr (.inl ⟨rfl, hE1 he, hbad (.inr (.inl he))⟩)
      · by_cases hl : lineQ p.1 = l
        · have e : T = l := by rw [hT0 he, hl]
          exact .inr (.inr (.inr ⟨rfl, hE0 he, by simp [e], by simp [e], hgood rfl he hl⟩))
        · have e : T ≠ l := by rw [hT0 he]; exact hl
          exact .inr (.inr (.inl ⟨rfl, hE0 he, by simp [e], by simp [e], hbad (.inr (.inr hl))⟩))
    · exact .inl ⟨rfl, hbad (.inl rfl)⟩
  clear hbad hgood hT0 hE0 hE1
  rcases hcase with ⟨rfl, hq⟩ | ⟨rfl, rfl, hq⟩ | ⟨rfl, rfl, hb1, hb2, hq⟩ | ⟨rfl, rfl, hb1, hb2, hq⟩
  case inr.inr.inr =>
    have HQ := Lib.hid hq
    clear hq
    go_wp2_with (first
      | (refine wpList_load_row rfl 60 (.tmp 5) rfl t rfl 60 (rqC p.1) (0, 0) _ HT.out Tryz.underlying60 rfl (rq_size _) ?_)
      | (refine wpList_store_row rfl 60 (.tmp 2) (.tmp 48) rfl w.heap.size (rqC p.1) rfl rfl 60 zeroC HZ.out (rq_size _) rfl (rq_one _) ?_))
    refine bodyPost_ret (results_cell_tmp rfl _ _ w.heap.size 60 (rqC p.1) (0, 0) _ rfl (HZ.out.row _) Tryz.underlying60 rfl (rq_size _)) rfl ?_
    exact ⟨by rw [HQ.out]; rfl, below_setRow HW.out (Nat.le_refl _) _⟩
  all_goals
    have HQ := Lib.hid hq
    clear hq
    go_wp2_with (refine wpList_store_row rfl 60 (.tmp 2) (.tmp 47) rfl w.heap.size zeroC rfl rfl 60 zeroC HZ.out zero_size rfl zero_one ?_)
    refine bodyPost_ret (results_cell_tmp rfl _ _ w.heap.size 60 zeroC (0, 0) _ rfl (HZ.out.row _) Tryz.underlying60 rfl (by kernel_rfl)) rfl ?_
    exact ⟨by rw [HQ.out]; rfl, below_setRow HW.out (Nat.le_refl _) _⟩
end Go.Proofs.YtldjgpnbkbmgoaaGreatDoor
