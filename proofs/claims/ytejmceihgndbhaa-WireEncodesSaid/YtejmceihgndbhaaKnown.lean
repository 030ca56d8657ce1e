/-
  The program's Encode and Right; known, what must come of fixed calls. Conditions: as XEnc.
-/
import Derived.Test.YtejmceihgndbhaaEnc
namespace Go.Proofs.Ytejmceihgndbhaa
open Go.RowKit Go.Lib
attribute [local go_sem ↓] load_req stop_req

def encE (q : Req) : Int := if isOp q.op = false then 51 else if encOk q = true then 0 else 1
def NPost (w : World) (q : Req) (e : Ending) (w' : World) : Prop := ∃ v l, e = .returned (.tuple #[v, .int .i64 (encE q)]) ∧ Sl byC w' w'.heap.size v l ∧ (encE q = 0 → l = encL q) ∧ (encE q ≠ 0 → l = []) ∧ Below w.heap.size w w'

theorem encOk_bad {q : Req} (h : encBad q = true) : encOk q = false := by unfold encOk; rw [h]; rfl

set_option maxRecDepth 100000 in
set_option maxHeartbeats 4000000 in
theorem Encode_ok (q : Req) (w : World) (hq : q.fits) : Calls Try.prog 13 #[.agg (rqC q)] w (NPost w q) := by
  have hb1 := Blk.new w 31 (rqC q)
  have hW1 := (Below.refl w.heap.size w).alloc (Nat.le_refl _) (.cells (rqC q) 31)
  obtain ⟨w1, hst1⟩ : ∃ w1, w.alloc (.cells (rqC q) 31) = w1 := ⟨_, rfl⟩
  rw [hst1] at hb1 hW1
  have HB := Lib.hid hb1
  have HW := Lib.hid hW1
  have c0 : w1.cell? ⟨w.heap.size, 0, none⟩ = some (.int .i64 q.op) := hb1.is 0 rfl
  have HQ := Lib.hid hq
  have HE := Lib.hid (show encE q = (if isOp q.op = false then 51 else if encOk q = true then 0 else 1) from rfl)
  have ht := fun w => there_ok q.op w
  clear hb1 hW1 hq
  by_cases hop : isOp q.op = true
  · rw [hop] at HE ht
    have HT := Lib.hid ht
    clear hop ht
    go_enter Try.func13, Try.ntmps13
    go_wp2_with fail
    refine (HT.out _).mono ?_
    rintro e w' ⟨rfl, hw'⟩
    rw [hw']
    clear hw' w'
    go_wp2_with (refine wpList_load_row rfl 31 (.tmp 1) rfl w.heap.size rfl 31 (rqC q) (0, 0) _ HB.out Try.underlying31 rfl (rq_size _) ?_)
    refine (encode_ok q w1 HQ.out).mono ?_
    rintro e w2 ⟨v, l, rfl, hs, h1, h2, hb⟩
    have HS := Lib.hid hs
    have HW2 := Lib.hid (HW.out.trans (hb.mono HW.out.size))
    have H1 := Lib.hid h1
    have H2 := Lib.hid h2
    clear hs hb h1 h2
    cases hok : encOk q
    · rw [hok] at HE
      clear hok
      go_wp2_with fail
      go_ret2
      exact ⟨_, [], by rw [HE.out]; rfl, Sl.nil, fun e => (by rw [HE.out] at e; cases e), fun _ => rfl, HW2.out⟩
    · rw [hok] at HE
      have HBAD := Lib.hid (show encBad q = false by cases hbad : encBad q with | false => rfl | true => rw [encOk_bad hbad] at hok; cases hok)
      clear hok
      go_wp2_with fail
      go_ret2
      exact ⟨_, l, by rw [HE.out]; rfl, HS.out, fun _ => H2.out HBAD.out, fun e => (e (by rw [HE.out]; rfl)).elim, HW2.out⟩
  · rw [Bool.not_eq_true] at hop
    rw [hop] at HE ht
    have HT := Lib.hid ht
    clear hop ht
    go_enter Try.func13, Try.ntmps13
    go_wp2_with fail
    refine (HT.out _).mono ?_
    rintro e w' ⟨rfl, hw'⟩
    rw [hw']
    clear hw' w'
    go_wp2_with fail
    go_ret2
    exact ⟨_, [], by rw [HE.out]; rfl, Sl.nil, fun e => (by rw [HE.out] at e; cases e), fun _ => rfl, HW.out⟩

set_option maxRecDepth 100000 in
set_option maxHeartbeats 4000000 in
theorem Right_ok (q : Req) (w : World) (hq : q.fits) : Calls Try.prog 15 #[.agg (rqC q)] w (BPost w (encOk q)) := by
  have hb1 := Blk.new w 31 (rqC q)
  have hW1 := (Below.refl w.heap.size w).alloc (Nat.le_refl _) (.cells (rqC q) 31)
  obtain ⟨w1, hst1⟩ : ∃ w1, w.alloc (.cells (rqC q) 31) = w1 := ⟨_, rfl⟩
  rw [hst1] at hb1 hW1
  have HB := Lib.hid hb1
  have HW := Lib.hid hW1
  have HQ := Lib.hid hq
  clear hb1 hW1 hq
  go_enter Try.func15, Try.ntmps15
  go_wp2_with (refine wpList_load_row rfl 31 (.tmp 1) rfl w.heap.size rfl 31 (rqC q) (0, 0) _ HB.out Try.underlying31 rfl (rq_size _) ?_)
  refine (encode_ok q w1 HQ.out).mono ?_
  rintro e w2 ⟨v, l, rfl, hs, h1, h2, hb⟩
  have HW2 := Lib.hid (HW.out.trans (hb.mono HW.out.size))
  clear hs hb h1 h2
  go_wp2_with fail
  go_ret
  exact ⟨rfl, HW2.out⟩

/-- A slice written out. -/
theorem Sl.lit {w : World} {cs : Array Value} {l : List UInt8} (h : cs.toList = l.flatMap byC) (hm : l.length ≤ 100) : Sl byC (w.alloc (.cells cs 5)) (w.heap.size + 1) (.slice (some ⟨w.heap.size, 0, none⟩) l.length l.length) l := by
  refine ⟨_, _, rfl, Nat.le_refl _, by unfold maxLen; omega, fun _ => ⟨_, 0, rfl, by omega, ?_⟩⟩
  have := (Blk.new w 5 cs).lay
  rw [h] at this
  exact this

def knownQ : Req := { zeroR 0 with op := 12, tenant := 1, user := 258, secret := 5 }
def knownL : List UInt8 := [14, 0, 0, 1, 0, 0, 0, 0, 0, 0, 0, 9, 3, 0, 7, 1, 0]
def knownB : List UInt8 := [12, 1, 1, 2, 0, 0, 0, 0, 0, 0, 0, 5, 0]
theorem known_enc : encE knownQ = 0 ∧ encL knownQ = knownB := by decide +kernel
theorem known_dec : dec knownL = ({ zeroR 0 with op := 14, tenant := 0, user := 1, secret := 9, m := 3, ax := 7, ay := 256 }, 0) := by decide +kernel
theorem known_fits : knownQ.fits := ⟨⟨by decide, by decide, by decide⟩, by decide⟩

set_option maxRecDepth 100000 in
set_option maxHeartbeats 4000000 in
theorem known_ok (w : World) : Calls Try.prog 10 #[] w (BPost w true) := by
  go_enter Try.func10, Try.ntmps10
  go_wp2_with fail
  refine (Encode_ok knownQ _ known_fits).mono ?_
  rintro e w1 ⟨v, l, rfl, hs, h1, -, hb⟩
  have hl := h1 known_enc.1
  rw [known_enc.2] at hl
  subst hl
  have HS := Lib.hid hs
  have HW := Lib.hid hb
  clear hs hb h1
  rw [known_enc.1]
  go_wp2_with fail
  have HL := Lib.hid (Sl.lit (w := w1) (cs := (knownL.flatMap byC).toArray) (l := knownL) (by simp) (by decide))
  have HS2 := Lib.hid ((HS.out.below ((Below.refl w1.heap.size w1).alloc (Nat.le_refl _) (.cells (knownL.flatMap byC).toArray 5))))
  have HW2 := Lib.hid (HW.out.alloc HW.out.size (.cells (knownL.flatMap byC).toArray 5))
  have hz2 : (w1.alloc (.cells (knownL.flatMap byC).toArray 5)).heap.size = w1.heap.size + 1 := by simp
  have hle : w1.heap.size ≤ (w1.alloc (.cells (knownL.flatMap byC).toArray 5)).heap.size := by omega
  rw [← hz2] at HL
  refine (decode_ok knownL _ _ HL.out).mono ?_
  rintro e w3 ⟨rfl, hb3⟩
  have HS3 := Lib.hid ((HS2.out.more hle).below hb3)
  have HW3 := Lib.hid (HW2.out.trans (hb3.mono HW2.out.size))
  have hz3 := hb3.size
  have HN := Lib.hid (Blk.new w3 31 zeroC)
  have HS4 := Lib.hid ((HS3.out.more hz3).below ((Below.refl w3.heap.size w3).alloc (Nat.le_refl _) (.cells zeroC 31)))
  have HW4 := Lib.hid (HW3.out.alloc HW3.out.size (.cells zeroC 31))
  rw [known_dec]
  clear hb3 HL HS2 HW2
  obtain ⟨w4, hst4⟩ : ∃ w4, w3.alloc (.cells zeroC 31) = w4 := ⟨_, rfl⟩
  have hz4 : w4.heap.size = w3.heap.size + 1 := by rw [← hst4]; simp
  rw [hst4] at HN HS4 HW4
  generalize hQ : ({ zeroR 0 with op := 14, tenant := 0, user := 1, secret := 9, m := 3, ax := 7, ay := 256 } : Req) = Q at *
  have HN5 := Lib.hid (HN.out.row (rqC Q))
  have HS5 := Lib.hid (HS4.out.keep (w' := w4.setRow w3.heap.size (rqC Q)) fun b hb => setRow_other w4 w3.heap.size b _ (by omega))
  have HW5 := Lib.hid (below_setRow HW4.out (g := w3.heap.size) HW3.out.size (rqC Q))
  obtain ⟨w5, hst5⟩ : ∃ w5, w4.setRow w3.heap.size (rqC Q) = w5 := ⟨_, rfl⟩
  have hz5 : w5.heap.size = w3.heap.size + 1 := by rw [← hst5]; simp [hz4]
  rw [hst5] at HN5 HS5 HW5
  have hb5 : Blk w5 w3.heap.size 31 (rqC Q) := HN5.out
  have c3 : w5.cell? ⟨w3.heap.size, 3, none⟩ = some (.int .u64 9) := by subst hQ; exact hb5.is 3 rfl
  have c4 : w5.cell? ⟨w3.heap.size, 4, none⟩ = some (.int .i64 3) := by subst hQ; exact hb5.is 4 rfl
  have c20 : w5.cell? ⟨w3.heap.size, 20, none⟩ = some (.int .i64 7) := by subst hQ; exact hb5.is 20 rfl
  have c21 : w5.cell? ⟨w3.heap.size, 21, none⟩ = some (.int .i64 256) := by subst hQ; exact hb5.is 21 rfl
  clear hb5 hz4
  have HQ := Lib.hid hQ
  clear hQ
  obtain ⟨A, cap, rfl, -⟩ := HS.out
  go_wp2_with (refine wpList_store_row rfl 31 (.tmp 3) (.tmp 13) rfl w3.heap.size (rqC Q) rfl rfl 31 zeroC HN.out (rq_size _) rfl (rq_one _) ?_)
  have HL6 := Lib.hid (Sl.lit (w := w5) (cs := (knownB.flatMap byC).toArray) (l := knownB) (by simp) (by decide))
  have HS6 := Lib.hid ((HS5.out.more (by omega : w3.heap.size ≤ w5.heap.size)).below ((Below.refl w5.heap.size w5).alloc (Nat.le_refl _) (.cells (knownB.flatMap byC).toArray 5)))
  have HW6 := Lib.hid (HW5.out.alloc HW5.out.size (.cells (knownB.flatMap byC).toArray 5))
  have HB6 := Lib.hid (HN5.out.alloc (.cells (knownB.flatMap byC).toArray 5))
  obtain ⟨w6, hst6⟩ : ∃ w6, w5.alloc (.cells (knownB.flatMap byC).toArray 5) = w6 := ⟨_, rfl⟩
  rw [hst6] at HL6 HS6 HW6 HB6
  refine (rsame_ok knownB knownB _ _ _ (w5.heap.size + 1) (by have h := HS6.out.more (Nat.le_succ w5.heap.size); rw [← hst6] at h; exact h) (by have h := HL6.out; rw [← hst6] at h; rw [hz5] at h ⊢; exact h)).mono ?_
  rintro e w7 ⟨rfl, n, hw7⟩
  have hw7' : w7 = w6.drewN n := by rw [hw7, ← hst6]; rfl
  have hb7 : Blk w7 w3.heap.size 31 (rqC Q) := by rw [hw7']; exact HB6.out
  have HW7 := Lib.hid (show Below w.heap.size w w7 by rw [hw7']; exact below_drewN HW6.out n)
  have g3 : w7.cell? ⟨w3.heap.size, 3, none⟩ = some (.int .u64 9) := by have h := hb7.is 3 rfl; rw [h, ← HQ.out]; rfl
  have g4 : w7.cell? ⟨w3.heap.size, 4, none⟩ = some (.int .i64 3) := by have h := hb7.is 4 rfl; rw [h, ← HQ.out]; rfl
  have g20 : w7.cell? ⟨w3.heap.size, 20, none⟩ = some (.int .i64 7) := by have h := hb7.is 20 rfl; rw [h, ← HQ.out]; rfl
  have g21 : w7.cell? ⟨w3.heap.size, 21, none⟩ = some (.int .i64 256) := by have h := hb7.is 21 rfl; rw [h, ← HQ.out]; rfl
  rw [decide_eq_true rfl]
  clear hw7 hw7' hb7 c3 c4 c20 c21 hst6 hst5 hst4 hz5 hz2 hz3 hle
  go_wp2_with fail
  go_ret
  exact ⟨rfl, HW7.out⟩
end Go.Proofs.Ytejmceihgndbhaa
