/-
  The program's Encode and Right; known, what must come of fixed calls. Conditions: as XEnc.
-/
import Derived.Test.YtldjgpnbkbmgoaaGreatDoorEnc
namespace Go.Proofs.YtldjgpnbkbmgoaaGreatDoor
open Go.RowKit Go.Lib
attribute [local go_sem ↓] load_req stop_req

def encE (q : Req) : Int := if isOp q.op = false then 51 else if encOk q = true then 0 else 1
def NPost (w : World) (q : Req) (e : Ending) (w' : World) : Prop := ∃ v l, e = .returned (.tuple #[v, .int .i64 (encE q)]) ∧ Sl byC w' w'.heap.size v l ∧ (encE q = 0 → l = encL q) ∧ (encE q ≠ 0 → l = []) ∧ Below w.heap.size w w'

theorem encOk_bad {q : Req} (h : encBad q = true) : encOk q = false := by unfold encOk; rw [h]; rfl

set_option maxRecDepth 100000 in
set_option maxHeartbeats 4000000 in
theorem Encode_ok (q : Req) (w : World) (hq : q.fits) : Calls Tryz.prog 116 #[.agg (rqC q)] w (NPost w q) := by
  have hb1 := Blk.new w 60 (rqC q)
  have hW1 := (Below.refl w.heap.size w).alloc (Nat.le_refl _) (.cells (rqC q) 60)
  obtain ⟨w1, hst1⟩ : ∃ w1, w.alloc (.cells (rqC q) 60) = w1 := ⟨_, rfl⟩
  rw [hst1] at hb1 hW1
  have HB := Lib.hid hb1
  have HW := Lib.hid hW1
  have c0 : w1.cell? ⟨w.heap.size, 0, none⟩ = some (.int .i64 q.op) := hb1.is 0 rfl
  have HQ := Lib.hid hq
  have HE := Lib.hid (show encE q = (if isOp q.op = false then 51 else if encOk q = true then 0 else 1) from rfl)
  have ht := fun w => there_ok q.op w
  clear hb1 hW1 hq
  by_cases hop : isOp q.op = true
  · rw [hop] at HE ht
    have HT := Lib.hid ht
    clear hop ht
    go_enter Tryz.func116, Tryz.ntmps116
    go_wp2_with fail
    refine (HT.out _).mono ?_
    rintro e w' ⟨rfl, hw'⟩
    rw [hw']
    clear hw' w'
    go_wp2_with (refine wpList_load_row rfl 60 (.tmp 1) rfl w.heap.size rfl 60 (rqC q) (0, 0) _ HB.out Tryz.underlying60 rfl (rq_size _) ?_)
    refine (encode_ok q w1 HQ.out).mono ?_
    rintro e w2 ⟨v, l, rfl, hs, h1, h2, hb⟩
    have HS := Lib.hid hs
    have HW2 := Lib.hid (HW.out.trans (hb.mono HW.out.size))
    have H1 := Lib.hid h1
    have H2 := Lib.hid h2
    clear hs hb h1 h2
    cases hok : encOk q
    · rw [hok] at HE
      clear hok
      go_wp2_with fail
      go_ret2
      exact ⟨_, [], by rw [HE.out]; rfl, Sl.nil, fun e => (by rw [HE.out] at e; cases e), fun _ => rfl, HW2.out⟩
    · rw [hok] at HE
      have HBAD := Lib.hid (show encBad q = false by cases hbad : encBad q with | false => rfl | true => rw [encOk_bad hbad] at hok; cases hok)
      clear hok
      go_wp2_with fail
      go_ret2
      exact ⟨_, l, by rw [HE.out]; rfl, HS.out, fun _ => H2.out HBAD.out, fun e => (e (by rw [HE.out]; rfl)).elim, HW2.out⟩
  · rw [Bool.not_eq_true] at hop
    rw [hop] at HE ht
    have HT := Lib.hid ht
    clear hop ht
    go_enter Tryz.func116, Tryz.ntmps116
    go_wp2_with fail
    refine (HT.out _).mono ?_
    rintro e w' ⟨rfl, hw'⟩
    rw [hw']
    clear hw' w'
    go_wp2_with fail
    go_ret2
    exact ⟨_, [], by rw [HE.out]; rfl, Sl.nil, fun e => (by rw [HE.out] at e; cases e), fun _ => rfl, HW.out⟩

set_option maxRecDepth 100000 in
set_option maxHeartbeats 4000000 in
theorem Right_ok (q : Req) (w : World) (hq : q.fits) : Calls Tryz.prog 48 #[.agg (rqC q)] w (BPost w (encOk q)) := by
  have hb1 := Blk.new w 60 (rqC q)
  have hW1 := (Below.refl w.heap.size w).alloc (Nat.le_refl _) (.cells (rqC q) 60)
  obtain ⟨w1, hst1⟩ : ∃ w1, w.alloc (.cells (rqC q) 60) = w1 := ⟨_, rfl⟩
  rw [hst1] at hb1 hW1
  have HB := Lib.hid hb1
  have HW := Lib.hid hW1
  have HQ := Lib.hid hq
  clear hb1 hW1 hq
  go_enter Tryz.func48, Tryz.ntmps48
  go_wp2_with (refine wpList_load_row rfl 60 (.tmp 1) rfl w.heap.size rfl 60 (rqC q) (0, 0) _ HB.out Tryz.underlying60 rfl (rq_size _) ?_)
  refine (encode_ok q w1 HQ.out).mono ?_
  rintro e w2 ⟨v, l, rfl, hs, h1, h2, hb⟩
  have HW2 := Lib.hid (HW.out.trans (hb.mono HW.out.size))
  clear hs hb h1 h2
  go_wp2_with fail
  go_ret
  exact ⟨rfl, HW2.out⟩

/-- A slice written out. -/
theorem Sl.lit {w : World} {cs : Array Value} {l : List UInt8} (h : cs.toList = l.flatMap byC) (hm : l.length ≤ 100) : Sl byC (w.alloc (.cells cs 5)) (w.heap.size + 1) (.slice (some ⟨w.heap.size, 0, none⟩) l.length l.length) l := by
  refine ⟨_, _, rfl, Nat.le_refl _, by unfold maxLen; omega, fun _ => ⟨_, 0, rfl, by omega, ?_⟩⟩
  have := (Blk.new w 5 cs).lay
  rw [h] at this
  exact this

def knownQ : Req := { zeroR 0 with op := 12, tenant := 1, user := 258, secret := 5 }
def knownL : List UInt8 := [14, 0, 0, 1, 0, 0, 0, 0, 0, 0, 0, 9, 3, 0, 7, 1, 0]
def knownB : List UInt8 := [12, 1, 1, 2, 0, 0, 0, 0, 0, 0, 0, 5, 0]
theorem known_enc : encE knownQ = 0 ∧ encL knownQ = knownB := by decide +kernel
theorem known_dec : dec knownL = ({ zeroR 0 with op := 14, tenant := 0, user := 1, secret := 9, m := 3, ax := 7, ay := 256 }, 0) := by decide +kernel
theorem known_fits : knownQ.fits := ⟨⟨by decide, by decide, by decide⟩, by decide⟩
end Go.Proofs.YtldjgpnbkbmgoaaGreatDoor
