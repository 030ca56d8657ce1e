/-
  The reader takes a part of an answer. Conditions: as each states.
-/
import Derived.Test.YtbfbcbhnknhgnaaDoorAnsPlain
import Derived.Test.YtbfbcbhnknhgnaaDoorInto
namespace Go.Proofs.YtbfbcbhnknhgnaaDoor
open Go.RowKit

theorem sn_elem : ElemOk Tryd.prog 45 74 6 48 := ⟨Tryd.underlying45, by
  have h : (Tryd.prog.info? 74).map (fun i => (i.zero, i.size, i.bytes)) = some (some (.agg #[.int .i64 0, .int .i64 0, .int .i64 0, .int .i64 0, .int .i64 0, .int .i64 0]), 6, 48) := by kernel_rfl
  obtain ⟨i, hi, h1, h2, h3⟩ := info_parts h
  exact ⟨i, _, hi, h1, h2, h3, rfl⟩, by omega⟩
theorem ev_elem : ElemOk Tryd.prog 46 83 4 32 := ⟨Tryd.underlying46, by
  have h : (Tryd.prog.info? 83).map (fun i => (i.zero, i.size, i.bytes)) = some (some (.agg #[.int .i64 0, .int .i64 0, .int .i64 0, .int .i64 0]), 4, 32) := by kernel_rfl
  obtain ⟨i, hi, h1, h2, h3⟩ := info_parts h
  exact ⟨i, _, hi, h1, h2, h3, rfl⟩, by omega⟩
/-- Where the reader of an answer stands: its words in block g, the answer in block t. -/
structure RA (w : World) (g t : Nat) (a : Ans) (s : RSt) : Prop where
  rd : Rd w g s
  blk : ∃ sv ev, Blk w t 48 (anC a sv ev) ∧ Own snC 6 74 w (t + 1) sv a.seen ∧ Own evC 4 83 w (t + 1) ev a.events
def AnP (w : World) (g t : Nat) (p : ASt) (e : Ending) (w' : World) : Prop := e = .returned (.tuple #[]) ∧ RA w' g t p.1 p.2 ∧ Below g w w'
theorem Own.two {α : Type} {enc : α → List Value} {k : Nat} {e : TypeId} {w w' : World} {base : Nat} {v : Value} {l : List α} {g t : Nat} (h : Own enc k e w base v l) (hw : Two w w' g t) (hg : ∀ b, v.ownBlock = some b → b ≠ g ∧ b ≠ t) : Own enc k e w' base v l :=
  h.keep fun b hb => hw.block b (h.lt b hb).2 (hg b hb).1 (hg b hb).2
theorem Own.above {α : Type} {enc : α → List Value} {k : Nat} {e : TypeId} {w w' : World} {v : Value} {l : List α} {g t : Nat} (h : Own enc k e w (t + 1) v l) (hw : Two w w' g t) (hgt : g < t) : Own enc k e w' (t + 1) v l :=
  h.two hw fun b hb => by have := (h.lt b hb).1; omega
theorem Own.rowed {α : Type} {enc : α → List Value} {k : Nat} {e : TypeId} {w w' : World} {v : Value} {l : List α} {g t : Nat} (h : Own enc k e w (t + 1) v l) (hw : w.grownBy w' (some g)) (hgt : g < t) : Own enc k e w' (t + 1) v l :=
  h.above (t := t) (Two.of_g hw) hgt
theorem RA.word {w w1 : World} {g t : Nat} {a : Ans} {s s' : RSt} (h : RA w g t a s) (hgt : g < t) (h1 : Rd w1 g s') (h2 : w.grownBy w1 (some g)) : RA w1 g t a s' ∧ Below g w w1 := by
  obtain ⟨hr, sv, ev, hb, ho, hp⟩ := h
  exact ⟨⟨h1, sv, ev, hb.grown h2 (fun e => by have := Option.some.inj e; omega), ho.rowed h2 hgt, hp.rowed h2 hgt⟩, below_of_grown h2 (Nat.le_of_lt hr.lt) (fun k hk => by have := Option.some.inj hk; omega)⟩

set_option maxRecDepth 100000 in
set_option maxHeartbeats 2000000 in
theorem part_sec_ok (w : World) (g t : Nat) (a : Ans) (s : RSt) (h : RA w g t a s) (hgt : g < t) (hx : (rW s).1 = secretL) :
    Calls Tryd.prog 41 #[.pointer (some ⟨g, 0, none⟩), .pointer (some ⟨t, 0, none⟩)] w (AnP w g t (pSec (a, (rW s).2))) := by
  have HH := Lib.hid h
  have HX := Lib.hid hx
  clear h hx
  obtain ⟨q, hq⟩ : ∃ q, (rW s).2 = q := ⟨_, rfl⟩
  rw [hq]
  have HQ := Lib.hid hq
  clear hq
  go_enter Tryd.func41, Tryd.ntmps41
  go_wp2_with fail
  refine (word_ok w g s HH.out.rd).mono ?_
  rintro e w1 ⟨rfl, h1, h2⟩
  rw [HX.out]
  rw [HQ.out] at h1
  have H1 := Lib.hid (HH.out.word hgt h1 h2)
  clear h1 h2
  go_wp2_with fail
  refine (secret_rd _ g q H1.out.1.rd).mono ?_
  rintro e w2 ⟨rfl, h1, h2⟩
  have H2 := Lib.hid (H1.out.1.word hgt h1 h2)
  clear h1 h2
  obtain ⟨sv, ev, hb, ho, hp⟩ := H2.out.1.blk
  have d0 := (show World.cell? _ ⟨t, 1, none⟩ = some (.int .u64 (a.secret : Nat)) from hb.is 1 rfl)
  have g0 := hb.frozen 1
  have HB := Lib.hid hb
  have HO := Lib.hid ho
  have HP := Lib.hid hp
  clear hb ho hp
  go_wp2_with fail
  refine bodyPost_ret (results_none rfl _ _ _) rfl ?_
  refine ⟨rfl, ⟨H2.out.1.rd.far (grow_set _ _ _ _) hgt, sv, ev, HB.out.put 1 _, HO.out.set _ ?_, HP.out.set _ ?_⟩, (H1.out.2.trans H2.out.2).setCell (Nat.le_of_lt hgt) _⟩
  · intro e
    have := (HO.out.lt _ e).1
    have e2 : (⟨t, 1, none⟩ : Addr).block = t := rfl
    omega
  · intro e
    have := (HP.out.lt _ e).1
    have e2 : (⟨t, 1, none⟩ : Addr).block = t := rfl
    omega

set_option maxRecDepth 100000 in
set_option maxHeartbeats 2000000 in
theorem part_rec_ok (w : World) (g t : Nat) (a : Ans) (s : RSt) (h : RA w g t a s) (hgt : g < t) (hx : (rW s).1 = recordL) :
    Calls Tryd.prog 41 #[.pointer (some ⟨g, 0, none⟩), .pointer (some ⟨t, 0, none⟩)] w (AnP w g t (pRec (a, (rW s).2))) := by
  have HH := Lib.hid h
  have HX := Lib.hid hx
  clear h hx
  obtain ⟨q, hq⟩ : ∃ q, (rW s).2 = q := ⟨_, rfl⟩
  rw [hq]
  have HQ := Lib.hid hq
  clear hq
  go_enter Tryd.func41, Tryd.ntmps41
  go_wp2_with fail
  refine (word_ok w g s HH.out.rd).mono ?_
  rintro e w1 ⟨rfl, h1, h2⟩
  rw [HX.out]
  rw [HQ.out] at h1
  have H1 := Lib.hid (HH.out.word hgt h1 h2)
  clear h1 h2
  obtain ⟨sv, ev, hb, ho, hp⟩ := H1.out.1.blk
  have HB := Lib.hid hb
  have HO := Lib.hid ho
  have HP := Lib.hid hp
  have HR := Lib.hid H1.out.1.rd
  have HW := Lib.hid H1.out.2
  clear hb ho hp H1 HH
  have HT := Lib.hid (Two.refl w1 g t).drew
  have HRd := Lib.hid HR.out.drew
  have HBd := Lib.hid (show Blk w1.drew t 48 (anC a sv ev) from HB.out)
  go_wp2_with fail
  go_region_held3 (fun _ => True) (trivial) (first | (go_at_call 53; refine (into_new _ g q (by exact HRd.out) t 48 (anC a sv ev) (by exact HBd.out) hgt [2, 3, 4, 5] (by simp) _ (by rfl) _ (by rfl) (by decide) _ (by rfl) (by simp)).mono ?_; rintro e w3 ⟨rfl, h1, h2, h3⟩; have H1 := Lib.hid h1; have H2 := Lib.hid h2; have H3 := Lib.hid (HT.out.trans h3); clear h1 h2 h3))
  all_goals
    refine bodyPost_ret (results_none rfl _ _ _) rfl ?_
    exact ⟨rfl, ⟨H1.out, sv, ev, H2.out, HO.out.above H3.out hgt, HP.out.above H3.out hgt⟩, HW.out.trans (H3.out.below (Nat.le_refl _) (Nat.le_of_lt hgt) (Nat.le_of_lt HR.out.lt))⟩

set_option maxRecDepth 100000 in
set_option maxHeartbeats 2000000 in
theorem part_box_ok (w : World) (g t : Nat) (a : Ans) (s : RSt) (h : RA w g t a s) (hgt : g < t) (hx : (rW s).1 = boxL) :
    Calls Tryd.prog 41 #[.pointer (some ⟨g, 0, none⟩), .pointer (some ⟨t, 0, none⟩)] w (AnP w g t (pBox (a, (rW s).2))) := by
  have HH := Lib.hid h
  have HX := Lib.hid hx
  clear h hx
  obtain ⟨q, hq⟩ : ∃ q, (rW s).2 = q := ⟨_, rfl⟩
  rw [hq]
  have HQ := Lib.hid hq
  clear hq
  go_enter Tryd.func41, Tryd.ntmps41
  go_wp2_with fail
  refine (word_ok w g s HH.out.rd).mono ?_
  rintro e w1 ⟨rfl, h1, h2⟩
  rw [HX.out]
  rw [HQ.out] at h1
  have H1 := Lib.hid (HH.out.word hgt h1 h2)
  clear h1 h2
  obtain ⟨sv, ev, hb, ho, hp⟩ := H1.out.1.blk
  have HB := Lib.hid hb
  have HO := Lib.hid ho
  have HP := Lib.hid hp
  have HR := Lib.hid H1.out.1.rd
  have HW := Lib.hid H1.out.2
  clear hb ho hp H1 HH
  go_wp2_with fail
  refine (rect_rd _ g q HR.out t 48 (anC a sv ev) HB.out hgt 6 (by simp) (by decide)).mono ?_
  rintro e w3 ⟨rfl, h1, h2, h3⟩
  have H1 := Lib.hid h1
  have H2 := Lib.hid h2
  have H3 := Lib.hid h3
  clear h1 h2 h3
  go_wp2_with fail
  refine bodyPost_ret (results_none rfl _ _ _) rfl ?_
  exact ⟨rfl, ⟨H1.out, sv, ev, H2.out, HO.out.above H3.out hgt, HP.out.above H3.out hgt⟩, HW.out.trans (H3.out.below (Nat.le_refl _) (Nat.le_of_lt hgt) (Nat.le_of_lt HR.out.lt))⟩

set_option maxRecDepth 100000 in
set_option maxHeartbeats 2000000 in
theorem part_no_ok (w : World) (g t : Nat) (a : Ans) (s : RSt) (h : RA w g t a s) (hgt : g < t) (hx1 : (rW s).1 ≠ secretL) (hx2 : (rW s).1 ≠ recordL) (hx3 : (rW s).1 ≠ boxL) (hx4 : (rW s).1 ≠ seenL) (hx5 : (rW s).1 ≠ eventL) :
    Calls Tryd.prog 41 #[.pointer (some ⟨g, 0, none⟩), .pointer (some ⟨t, 0, none⟩)] w (AnP w g t (pNo (a, (rW s).2))) := by
  have HH := Lib.hid h
  have e1 : ((rW s).1 == [115, 101, 99, 114, 101, 116]) = false := by simpa using hx1
  have e2 : ((rW s).1 == [114, 101, 99, 111, 114, 100]) = false := by simpa using hx2
  have e3 : ((rW s).1 == [98, 111, 120]) = false := by simpa using hx3
  have e4 : ((rW s).1 == [115, 101, 101, 110]) = false := by simpa using hx4
  have e5 : ((rW s).1 == [101, 118, 101, 110, 116]) = false := by simpa using hx5
  obtain ⟨x, hx⟩ : ∃ x, x = (rW s).1 := ⟨_, rfl⟩
  rw [← hx] at e1 e2 e3 e4 e5
  have HX := Lib.hid hx
  clear h hx hx1 hx2 hx3 hx4 hx5
  obtain ⟨q, hq⟩ : ∃ q, (rW s).2 = q := ⟨_, rfl⟩
  rw [hq]
  have HQ := Lib.hid hq
  clear hq
  go_enter Tryd.func41, Tryd.ntmps41
  go_wp2_with fail
  refine (word_ok w g s HH.out.rd).mono ?_
  rintro e w1 ⟨rfl, h1, h2⟩
  rw [← HX.out]
  rw [HQ.out] at h1
  have H1 := Lib.hid (HH.out.word hgt h1 h2)
  obtain ⟨c1, f1⟩ := h1.cells
  clear h1 h2
  obtain ⟨sv, ev, hb, ho, hp⟩ := H1.out.1.blk
  have HB := Lib.hid hb
  have HO := Lib.hid ho
  have HP := Lib.hid hp
  clear hb ho hp
  go_wp2_with fail
  refine bodyPost_ret (results_none rfl _ _ _) rfl ?_
  have hw := grow_set w1 g 1 (.bool true)
  exact ⟨rfl, ⟨H1.out.1.rd.flag true, sv, ev, HB.out.grown hw (fun e => by have := Option.some.inj e; omega), HO.out.rowed hw hgt, HP.out.rowed hw hgt⟩, H1.out.2.setCell (Nat.le_refl _) _⟩
end Go.Proofs.YtbfbcbhnknhgnaaDoor
