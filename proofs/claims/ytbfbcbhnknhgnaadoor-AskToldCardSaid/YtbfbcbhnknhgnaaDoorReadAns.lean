/-
  The reader takes an event of an answer. Conditions: as each states.
  PRINTED BY genparte.py.
  The program's ReadAnswer. Conditions: the text is at most 20000 bytes long.
-/
import Derived.Test.YtbfbcbhnknhgnaaDoorPartS
namespace Go.Proofs.YtbfbcbhnknhgnaaDoor
open Go.RowKit

set_option maxRecDepth 100000 in
set_option maxHeartbeats 4000000 in
theorem part_event_ok (w : World) (g t : Nat) (a : Ans) (s : RSt) (h : RA w g t a s) (hgt : g < t) (hx : (rW s).1 = eventL) (hn : a.events.length ≤ 100000) :
    Calls Tryd.prog 41 #[.pointer (some ⟨g, 0, none⟩), .pointer (some ⟨t, 0, none⟩)] w (AnP w g t (pEv (a, (rW s).2))) := by
  have HH := Lib.hid h
  have HX := Lib.hid hx
  clear h hx
  obtain ⟨q, hq⟩ : ∃ q, (rW s).2 = q := ⟨_, rfl⟩
  rw [hq]
  have HQ := Lib.hid hq
  clear hq
  go_enter Tryd.func41, Tryd.ntmps41
  go_wp2_with fail
  refine (word_ok w g s HH.out.rd).mono ?_
  rintro e w1 ⟨rfl, h1, h2⟩
  rw [HX.out]
  rw [HQ.out] at h1
  have H1 := Lib.hid (HH.out.word hgt h1 h2)
  clear h1 h2
  obtain ⟨sv, ev, hb, ho, hp⟩ := H1.out.1.blk
  have hlt := hb.lt
  obtain ⟨sb, hsb⟩ : ∃ sb, w1.heap.size = sb := ⟨_, rfl⟩
  have hal := (Below.refl w1.heap.size w1).alloc (Nat.le_refl _) (.cells zE 83)
  have hnb := Blk.new w1 83 zE
  rw [hsb] at hnb hlt
  have HB := Lib.hid (hb.alloc (.cells zE 83))
  have HO := Lib.hid (ho.alloc (.cells zE 83))
  have HP := Lib.hid (hp.alloc (.cells zE 83))
  have HR := Lib.hid (H1.out.1.rd.keep hal)
  have HW := Lib.hid (H1.out.2.alloc (Nat.le_of_lt (by have := H1.out.1.rd.lt; have := H1.out.2.size; have := HH.out.rd.lt; omega)) (.cells zE 83))
  have HSO := Lib.hid (fun b hb => (ho.lt b hb).2)
  have HSP := Lib.hid (fun b hb => (hp.lt b hb).2)
  have hz2 : (w1.alloc (.cells zE 83)).heap.size = sb + 1 := by rw [← hsb]; simp
  obtain ⟨w2, hst2⟩ : ∃ w2, w1.alloc (.cells zE 83) = w2 := ⟨_, rfl⟩
  rw [hst2] at HB HO HP HR HW hnb hz2
  rw [hsb] at HSO HSP
  have HN := Lib.hid hnb
  have HZ := Lib.hid hz2
  unfold zE at hst2
  clear hb ho hp hal hnb H1 HH hz2
  go_wp2_with fail
  refine (into_new w2 g q HR.out sb 83 zE HN.out (by omega) [0, 1, 2, 3] (by simp [zE]) _ (by rfl) _ (by rfl) (by decide) _ (by rfl) (by simp)).mono ?_
  rintro e w4 ⟨rfl, h1, h2, h3⟩
  clear hst2 hsb
  have hg2 := HW.out.size
  have HB := Lib.hid (h3.blk HB.out (by omega) (by omega))
  have HO := Lib.hid (HO.out.two h3 fun b hb => by have := (HO.out.lt b hb).1; have := HSO.out b hb; omega)
  have HP := Lib.hid (HP.out.two h3 fun b hb => by have := (HP.out.lt b hb).1; have := HSP.out b hb; omega)
  have HW := Lib.hid (HW.out.trans (h3.below (Nat.le_refl _) (by omega) (by have := HZ.out; omega)))
  obtain ⟨x, hx⟩ : ∃ x, x = (rEv q).1 := ⟨_, rfl⟩
  have hc4 : (intoS [0, 1, 2, 3] (zE, q)).1 = (evC x).toArray := by rw [hx]; rfl
  have hs4 : (intoS [0, 1, 2, 3] (zE, q)).2 = (rEv q).2 := rfl
  rw [hc4] at h2
  rw [hs4] at h1
  have HR := Lib.hid h1
  have HN := Lib.hid h2
  have HX4 := Lib.hid hx
  have HZ4 := Lib.hid (show sb + 1 ≤ w4.heap.size by have := h3.size; have := HZ.out; omega)
  clear h1 h2 h3 hc4 hs4 hx HZ HSO HSP hg2
  obtain ⟨A, c, rfl⟩ := HP.out.form
  have d0 := (show World.cell? _ ⟨t, 11, none⟩ = some (.slice A a.events.length c) from HB.out.is 11 rfl)
  have d1 := (show World.cell? (w4.alloc (.cells #[.int .i64 x.user, .int .i64 x.op, .int .i64 x.status, .int .i64 x.tick] 83)) ⟨t, 11, none⟩ = some (.slice A a.events.length c) from (HB.out.alloc _).is 11 rfl)
  have e0 := (show World.cell? _ ⟨sb, 0, none⟩ = some (.int .i64 x.user) from HN.out.is 0 rfl)
  have e1 := (show World.cell? _ ⟨sb, 1, none⟩ = some (.int .i64 x.op) from HN.out.is 1 rfl)
  have e2 := (show World.cell? _ ⟨sb, 2, none⟩ = some (.int .i64 x.status) from HN.out.is 2 rfl)
  have e3 := (show World.cell? _ ⟨sb, 3, none⟩ = some (.int .i64 x.tick) from HN.out.is 3 rfl)
  have hsz : t + 1 ≤ w4.heap.size := by have := HZ4.out; omega
  have hne : (Value.slice A a.events.length c).ownBlock ≠ some t := HP.out.ne_blk HB.out (by decide)
  have HNE := Lib.hid hne
  clear hne
  go_wp2_with fail
  go_region_law ((refine step_one ev_elem ev_enc rfl (.tmp 87) (.tmp 89) rfl rfl (Own.alloc HP.out _) x w4.heap.size 1 rfl (Blk.lay (Blk.new _ _ _)) (by unfold maxLen; omega) (by omega) (by simp; omega) ?_); intro g' cap w5 hown5 hgrow hat hlt5; have hb5 : Blk w5 t 48 _ := (hgrow.block t (by simp; omega) (fun e => HNE.out e.symm)).trans (Blk.alloc HB.out _); have g0 := hb5.is 11 rfl; have g1 := hb5.frozen 11)
  all_goals
    go_wp2_with fail
    refine bodyPost_ret (results_none rfl _ _ _) rfl ?_
    have hlo : ∀ b, (Value.slice A a.events.length c).ownBlock = some b → t + 1 ≤ b := fun b hb => (HP.out.lt b hb).1
    have hset : ∀ (u : Value) (b : Nat), b ≠ t → (w5.setCell ⟨t, 11, none⟩ u).heap[b]? = w5.heap[b]? := fun u b hb => Below.heap_setCell _ _ _ _ hb
    refine ⟨rfl, ⟨?_, sv, _, hb5.put 11 _, ?_, ?_⟩, ?_⟩
    · rw [show (pEv (a, q)).2 = (rEv q).2 from rfl]
      refine HR.out.still fun b hb => ?_
      refine (hset _ b (by omega)).trans ((hgrow.block b (by simp; omega) (fun e => by have := hlo b e.symm; omega)).trans ?_)
      exact Below.heap_alloc w4 _ b (by omega)
    · exact (((HO.out.alloc _).drew.grown hgrow (HO.out.apart HP.out (by decide))).set _ (fun e => by have := (HO.out.lt _ e).1; have e2 : (⟨t, 11, none⟩ : Addr).block = t := rfl; omega))
    · rw [show (pEv (a, q)).1.events = a.events ++ [x] by rw [HX4.out]; rfl]
      have := hown5.set (p := ⟨t, 11, none⟩) (.slice (some ⟨g', 0, none⟩) (a.events.length + 1) cap) (hown5.ne_blk hb5 (by decide))
      exact this
    · exact (((HW.out.alloc (by have := HR.out.lt; omega) _).drew.grown hgrow (by simp; omega) (fun k hk => by have := hlo k hk; omega)).setCell (Nat.le_of_lt hgt) _)
end Go.Proofs.YtbfbcbhnknhgnaaDoor

namespace Go.Proofs.YtbfbcbhnknhgnaaDoor
open Go.RowKit

theorem rPart_eq (a : Ans) (s : RSt) : rPart (a, s) = if (rW s).1 = secretL then pSec (a, (rW s).2) else if (rW s).1 = recordL then pRec (a, (rW s).2) else if (rW s).1 = boxL then pBox (a, (rW s).2) else if (rW s).1 = seenL then pSeen (a, (rW s).2) else if (rW s).1 = eventL then pEv (a, (rW s).2) else pNo (a, (rW s).2) := rfl
theorem part_ok (w : World) (g t : Nat) (p : ASt) (h : RA w g t p.1 p.2) (hgt : g < t) (hn : p.1.seen.length ≤ 100000) (hm : p.1.events.length ≤ 100000) :
    Calls Tryd.prog 41 #[.pointer (some ⟨g, 0, none⟩), .pointer (some ⟨t, 0, none⟩)] w (AnP w g t (rPart p)) := by
  obtain ⟨a, s⟩ := p
  dsimp only at h hn hm
  rw [rPart_eq]
  by_cases x1 : (rW s).1 = secretL
  · rw [if_pos x1]
    exact part_sec_ok w g t a s h hgt x1
  rw [if_neg x1]
  by_cases x2 : (rW s).1 = recordL
  · rw [if_pos x2]
    exact part_rec_ok w g t a s h hgt x2
  rw [if_neg x2]
  by_cases x3 : (rW s).1 = boxL
  · rw [if_pos x3]
    exact part_box_ok w g t a s h hgt x3
  rw [if_neg x3]
  by_cases x4 : (rW s).1 = seenL
  · rw [if_pos x4]
    exact part_seen_ok w g t a s h hgt x4 hn
  rw [if_neg x4]
  by_cases x5 : (rW s).1 = eventL
  · rw [if_pos x5]
    exact part_event_ok w g t a s h hgt x5 hm
  rw [if_neg x5]
  exact part_no_ok w g t a s h hgt x1 x2 x3 x4 x5

abbrev nilV : Value := .slice none 0 0
abbrev zeroAC : Array Value := anC zeroA nilV nilV
theorem an_size (a : Ans) (sv ev : Value) : (Tryd.prog.info? 48).map (·.size) = some (anC a sv ev).size := by kernel_rfl
def IsSl (v : Value) : Prop := ∃ A n c, v = .slice A n c
theorem nil_sl : IsSl (.slice none 0 0) := ⟨_, _, _, rfl⟩
theorem an_one {a : Ans} {sv ev : Value} (h1 : IsSl sv) (h2 : IsSl ev) : (anC a sv ev).all (·.oneCell') = true := by
  obtain ⟨_, _, _, rfl⟩ := h1
  obtain ⟨_, _, _, rfl⟩ := h2
  simp [Value.oneCell']
theorem Own.cell {α : Type} {enc : α → List Value} {k base : Nat} {e : TypeId} {w : World} {v : Value} {l : List α} (h : Own enc k e w base v l) : IsSl v := by
  obtain ⟨A, cap, rfl⟩ := h.form
  exact ⟨_, _, _, rfl⟩
/-- An answer and a status. -/
def ADPost (w : World) (r : Ans × Int) (e : Ending) (w' : World) : Prop := ∃ sv ev, e = .returned (.tuple #[.agg (anC r.1 sv ev), .int .i64 r.2]) ∧ Sl snC w' w'.heap.size sv r.1.seen ∧ Sl evC w' w'.heap.size ev r.1.events ∧ Below w.heap.size w w'
/-- How many words are left. -/
def wordsLeft (w : World) (g : Nat) : Nat := match w.cell? ⟨g, 0, none⟩ with
  | some (.slice _ n _) => n
  | _ => 0
theorem Rd.left {w : World} {g : Nat} {s : RSt} (h : Rd w g s) : wordsLeft w g = s.1.length := by
  obtain ⟨A, cap, h1, h2⟩ := h
  unfold wordsLeft
  rw [show w.cell? ⟨g, 0, none⟩ = some (.slice A s.1.length cap) from h1.is 0 rfl]
theorem Rd.head {w : World} {g : Nat} {s : RSt} (h : Rd w g s) : ∃ A cap, w.cell? ⟨g, 0, none⟩ = some (.slice A s.1.length cap) := by
  obtain ⟨A, cap, h1, h2⟩ := h
  exact ⟨A, cap, h1.is 0 rfl⟩
/-- Where ReadAnswer's loop stands. -/
structure RL (w wx : World) (g t : Nat) (l : List UInt8) (p : ASt) : Prop where
  ra : RA wx g t p.1 p.2
  all : readT l = pAll p
  cnt : Cnt 20001 p
  sec : p.1.secret < 18446744073709551616
  res : Blk wx w.heap.size 48 zeroAC
  bel : Below w.heap.size w wx
theorem RL.part {w wx wy : World} {g t : Nat} {l : List UInt8} {p : ASt} (h : RL w wx g t l p) (hg : w.heap.size < g) (h0 : p.2.1 ≠ []) (hb : p.2.2 = false) (h1 : RA wy g t (rPart p).1 (rPart p).2) (h2 : Below g wx wy) : RL w wy g t l (rPart p) :=
  ⟨h1, h.all.trans (pAll_step p h0 hb), h.cnt.part h0 hb, part_sec p h.sec, h.res.below h2 hg, h.bel.trans (h2.mono (Nat.le_of_lt hg))⟩
theorem statuses_eq (w : World) : Calls Tryd.prog 34 #[] w (TabPost w stsL) := by
  go_enter Tryd.func34, Tryd.ntmps34
  go_wp2
  go_ret
  exact ⟨rfl, rfl⟩
theorem ansE_eq (a : Ans) : ansE a = if mayB a = true then 0 else 1 := rfl
theorem rw_len (l : List UInt8) : (rW (splitL l, false)).2.1.length ≤ l.length + 1 := Nat.le_trans (rW_less (splitL l, false)) (splitL_count l)
theorem RL.start {w wx : World} {g t : Nat} {l : List UInt8} {x : Int} {f : List UInt8 × RSt} (hl : l.length ≤ 20000) (hf : f = rW (splitL l, false)) (hx : x = atF f.1 0 stsL) (hr : RA wx g t { zeroA with status := x } f.2) (hres : Blk wx w.heap.size 48 zeroAC) (hbel : Below w.heap.size w wx) : RL w wx g t l ({ zeroA with status := x }, f.2) := by
  subst hx
  subst hf
  have hc := rw_len l
  refine ⟨hr, rfl, ?_, by show 0 < _; decide, hres, hbel⟩
  unfold Cnt
  simp only [List.length_nil]
  split <;> omega
/-- What is handed back, by how the reading went. -/
theorem readA_by (l : List UInt8) (p : ASt) (h : readT l = p) : (p.2.2 = true ∧ readA l = (zeroA, 60)) ∨ (p.2.2 = false ∧ ansE p.1 = 1 ∧ readA l = (zeroA, 60)) ∨ (p.2.2 = false ∧ ansE p.1 = 0 ∧ (ansT p.1 == l) = false ∧ (ansT p.1 != l) = true ∧ readA l = (zeroA, 60)) ∨ (p.2.2 = false ∧ ansE p.1 = 0 ∧ (ansT p.1 == l) = true ∧ (ansT p.1 != l) = false ∧ readA l = (p.1, 0)) := by
  unfold readA
  rw [h]
  cases hb : p.2.2
  · cases hm : mayB p.1
    · refine .inr (.inl ⟨rfl, by unfold ansE; rw [hm]; rfl, ?_⟩)
      rw [if_neg (by simp)]
    · have he : ansE p.1 = 0 := by unfold ansE; rw [if_pos hm]
      by_cases ht : ansT p.1 = l
      · exact .inr (.inr (.inr ⟨rfl, he, by simp [ht], by simp [ht], by rw [if_pos ⟨rfl, rfl, ht⟩]⟩))
      · exact .inr (.inr (.inl ⟨rfl, he, by simp [ht], by simp [ht], by rw [if_neg (by simp [ht])]⟩))
  · exact .inl ⟨rfl, by rw [if_neg (by simp)]⟩

set_option maxRecDepth 100000 in
set_option maxHeartbeats 8000000 in
theorem ReadAnswer_ok (l : List UInt8) (w : World) (hl : l.length ≤ 20000) : Calls Tryd.prog 18 #[strV l] w (ADPost w (readA l)) := by
  have HLL := Lib.hid hl
  have hb0 := Blk.new w 48 zeroAC
  have hW0 := (Below.refl w.heap.size w).alloc (Nat.le_refl _) (.cells zeroAC 48)
  have hz0 : (w.alloc (.cells zeroAC 48)).heap.size = w.heap.size + 1 := by simp
  obtain ⟨w0, hst0⟩ : ∃ w0, w.alloc (.cells zeroAC 48) = w0 := ⟨_, rfl⟩
  rw [hst0] at hb0 hW0 hz0
  have hst0n : w.alloc (.cells #[.int .i64 0, .int .u64 0, .int .i64 0, .int .i64 0, .int .i64 0, .int .i64 0, .int .i64 0, .int .i64 0, .int .i64 0, .int .i64 0, .slice none 0 0, .slice none 0 0] 48) = w0 := hst0
  clear hst0
  have HB0 := Lib.hid hb0
  have HW := Lib.hid hW0
  clear hb0 hW0
  go_enter Tryd.func18, Tryd.ntmps18
  go_wp2_with fail
  refine (begin_ok l w0 (by omega)).mono ?_
  rintro e w1 ⟨rfl, h1, h2⟩
  obtain ⟨g, hg⟩ : ∃ g, g = w0.heap.size + 1 := ⟨_, rfl⟩
  rw [← hg] at h1 ⊢
  have hgr : w.heap.size < g := by omega
  have HB0 := Lib.hid (HB0.out.below h2 (by omega))
  have HW := Lib.hid (HW.out.trans (h2.mono (by omega)))
  have HD := Lib.hid h1
  clear h1 h2 hg hz0 hst0n
  go_wp2_with fail
  -- the status's word
  refine (statuses_eq w1).mono ?_
  rintro e w' ⟨rfl, hw'⟩
  rw [hw']
  clear hw' w'
  have hTab := Blk.new w1 9 (wordsC stsL)
  have HB0 := Lib.hid (HB0.out.alloc (.cells (wordsC stsL) 9))
  have HW := Lib.hid (HW.out.alloc HW.out.size (.cells (wordsC stsL) 9))
  have hgb : g < w1.heap.size := HD.out.lt
  have HD := Lib.hid (HD.out.keep ((Below.refl w1.heap.size w1).alloc (Nat.le_refl _) (.cells (wordsC stsL) 9)))
  obtain ⟨tb, htb⟩ : ∃ tb, tb = w1.heap.size := ⟨_, rfl⟩
  obtain ⟨w2, hst2⟩ : ∃ w2, w1.alloc (.cells (wordsC stsL) 9) = w2 := ⟨_, rfl⟩
  rw [hst2, ← htb] at hTab
  rw [hst2] at HB0 HW HD ⊢
  rw [← htb] at hgb ⊢
  have HTab := Lib.hid hTab
  clear hTab hst2 htb
  obtain ⟨p0, hp0⟩ : ∃ p0, p0 = (splitL l, false) := ⟨_, rfl⟩
  rw [← hp0] at HD
  have HP0 := Lib.hid hp0
  clear hp0
  go_wp2_with fail
  refine (word_ok w2 g p0 HD.out).mono ?_
  rintro e w3 ⟨rfl, h1, h2⟩
  have HW := Lib.hid (HW.out.trans (below_of_grown h2 HW.out.size (fun k hk => by have := Option.some.inj hk; omega)))
  have HB0 := Lib.hid (HB0.out.grown h2 (fun e => by have := Option.some.inj e; omega))
  have HTab := Lib.hid (HTab.out.grown h2 (fun e => by have := Option.some.inj e; omega))
  obtain ⟨f, hf⟩ : ∃ f, f = rW p0 := ⟨_, rfl⟩
  rw [← hf] at h1 ⊢
  rw [HP0.out] at hf
  have HF := Lib.hid hf
  have HD := Lib.hid h1
  clear h1 h2 hf HP0
  go_wp2_with fail
  refine (at_ok stsL f.1 tb w3 HTab.out (by decide)).mono ?_
  rintro e w' ⟨rfl, hw'⟩
  rw [hw']
  clear hw' w' HTab
  obtain ⟨x, hx⟩ : ∃ x, x = atF f.1 0 stsL := ⟨_, rfl⟩
  rw [← hx]
  have HX := Lib.hid hx
  clear hx
  -- the answer's block
  obtain ⟨t, ht⟩ : ∃ t, t = w3.heap.size := ⟨_, rfl⟩
  have hgt : g < t := by have := HD.out.lt; omega
  have hb4 := Blk.new w3 48 zeroAC
  have HB0 := Lib.hid (HB0.out.alloc (.cells zeroAC 48))
  have HW := Lib.hid (HW.out.alloc HW.out.size (.cells zeroAC 48))
  have HD := Lib.hid (HD.out.keep ((Below.refl w3.heap.size w3).alloc (Nat.le_refl _) (.cells zeroAC 48)))
  have ht' := ht.symm
  obtain ⟨w4, hst4⟩ : ∃ w4, w3.alloc (.cells zeroAC 48) = w4 := ⟨_, rfl⟩
  rw [hst4, ← ht] at hb4
  rw [hst4] at HB0 HW HD
  have hst4n : w3.alloc (.cells #[.int .i64 0, .int .u64 0, .int .i64 0, .int .i64 0, .int .i64 0, .int .i64 0, .int .i64 0, .int .i64 0, .int .i64 0, .int .i64 0, .slice none 0 0, .slice none 0 0] 48) = w4 := hst4
  clear hst4
  have HT := Lib.hid hb4
  clear hb4 ht
  go_wp2_with (refine wpList_store_row rfl 48 (.tmp 5) (.tmp 14) rfl t (anC { zeroA with status := x } nilV nilV) rfl rfl 48 zeroAC HT.out (an_size _ _ _) rfl (an_one nil_sl nil_sl) ?_)
  have hg5 := grow_row w4 t (anC { zeroA with status := x } nilV nilV)
  have HB0 := Lib.hid (HB0.out.farRow (show w.heap.size ≠ t by omega) (anC { zeroA with status := x } nilV nilV))
  have HW := Lib.hid (below_setRow HW.out (show w.heap.size ≤ t by omega) (anC { zeroA with status := x } nilV nilV))
  have HD := Lib.hid (HD.out.far hg5 hgt)
  have HT := Lib.hid (HT.out.row (anC { zeroA with status := x } nilV nilV))
  obtain ⟨w5, hst5⟩ : ∃ w5, w4.setRow t (anC { zeroA with status := x } nilV nilV) = w5 := ⟨_, rfl⟩
  rw [hst5] at HB0 HW HD HT ⊢
  have HRL := Lib.hid (RL.start (t := t) HLL.out HF.out HX.out ⟨HD.out, nilV, nilV, HT.out, Own.nil, Own.nil⟩ HB0.out HW.out)
  clear hg5 hst5 hst4n ht' HD HT HB0 HW HX HF
  go_wp2_with fail
  go_loopw [15] (fun _ wr => ∃ p, RL w wr g t l p) (fun _ wr => wordsLeft wr g)
  case atStart => exact ⟨_, HRL.out⟩
  case round =>
    obtain ⟨p, hrl⟩ := hrel
    have HL := Lib.hid hrl
    clear HRL hrl
    obtain ⟨A, cap, c0⟩ := HL.out.ra.rd.head
    obtain ⟨c1, -⟩ := HL.out.ra.rd.cells
    have hst : (p.2.1 = [] ∨ p.2.2 = true) ∨ (p.2.1 ≠ [] ∧ p.2.2 = false) := by
      by_cases h0 : p.2.1 = []
      · exact .inl (.inl h0)
      · cases hb : p.2.2
        · exact .inr ⟨h0, rfl⟩
        · exact .inl (.inr rfl)
    rcases hst with hstop | ⟨h0, hb⟩
    · have HT := Lib.hid (show readT l = p from HL.out.all.trans (pAll_stop p hstop))
      have hcase := readA_by l p HT.out
      have hitems := HL.out.cnt.items (Nat.le_refl _)
      obtain ⟨sv, ev, hb, ho, hp⟩ := HL.out.ra.blk
      have HSEC := Lib.hid HL.out.sec
      have HB := Lib.hid hb
      have HO := Lib.hid ho
      have HP := Lib.hid hp
      have HD := Lib.hid HL.out.ra.rd
      have HB0 := Lib.hid HL.out.res
      have HW := Lib.hid HL.out.bel
      have HC := Lib.hid hcase
      obtain ⟨n, hn⟩ : ∃ n, n = p.2.1.length := ⟨_, rfl⟩
      rw [← hn] at c0
      have htwo : n = 0 ∨ ((0 : Int) < (n : Int) ∧ p.2.2 = true) := by
        rcases hstop with h | h
        · left; rw [hn, h]; rfl
        · by_cases hz : n = 0
          · exact .inl hz
          · exact .inr ⟨by omega, h⟩
      obtain ⟨bd, hbd⟩ : ∃ bd, bd = p.2.2 := ⟨_, rfl⟩
      rw [← hbd] at c1 htwo HC
      have HBD := Lib.hid hbd
      clear hb ho hp hcase HL hn hstop hbd
      rcases htwo with rfl | ⟨hpos, rfl⟩
      all_goals
        go_wp2_with (refine wpList_load_row rfl 48 (.tmp 5) rfl t rfl 48 (anC p.1 sv ev) (0, 0) _ HB.out Tryd.underlying48 rfl (an_size _ _ _) ?_)
        refine (Answer_ok _ p.1 sv ev HO.out.sl HP.out.sl hitems.1 hitems.2 HSEC.out).mono ?_
        rintro e w14 ⟨rfl, h1⟩
        have HW := Lib.hid (HW.out.trans (h1.mono HW.out.size))
        have HB0 := Lib.hid (HB0.out.below h1 HB0.out.lt)
        have HO := Lib.hid (HO.out.keep fun b hb => h1.block b (HO.out.lt b hb).2)
        have HP := Lib.hid (HP.out.keep fun b hb => h1.block b (HP.out.lt b hb).2)
        have HB := Lib.hid (HB.out.below h1 HB.out.lt)
        have HD := Lib.hid (HD.out.keep h1)
        obtain ⟨d1, -⟩ := HD.out.cells
        rw [← HBD.out] at d1
        clear h1 c0 c1
        obtain ⟨T, hT⟩ : ∃ T, T = ansT p.1 := ⟨_, rfl⟩
        obtain ⟨E, hE⟩ : ∃ E, E = ansE p.1 := ⟨_, rfl⟩
        rw [← hT, ← hE]
        rw [← hT, ← hE] at HC
        clear hT hE
        rcases HC.out with ⟨hz, hq⟩ | ⟨hz, rfl, hq⟩ | ⟨hz, rfl, hb1, hb2, hq⟩ | ⟨hz, rfl, hb1, hb2, hq⟩
        case inr.inr.inr =>
          have HQ := Lib.hid hq
          (try subst hz)
          (try cases hz)
          all_goals
            clear hq HC
            go_wp2_with (first
              | (refine wpList_load_row rfl 48 (.tmp 5) rfl t rfl 48 (anC p.1 sv ev) (0, 0) _ HB.out Tryd.underlying48 rfl (an_size _ _ _) ?_)
              | (refine wpList_store_row rfl 48 (.tmp 2) (.tmp 49) rfl w.heap.size (anC p.1 sv ev) rfl rfl 48 zeroAC HB0.out (an_size _ _ _) rfl (an_one HO.out.cell HP.out.cell) ?_))
            refine bodyPost_ret (results_cell_tmp rfl _ _ w.heap.size 48 (anC p.1 sv ev) (0, 0) _ rfl (HB0.out.row _) Tryd.underlying48 rfl (an_size _ _ _)) rfl ?_
            refine ⟨sv, ev, by rw [HQ.out]; rfl, ?_, ?_, below_setRow HW.out (Nat.le_refl _) _⟩
            · rw [HQ.out]
              exact (HO.out.keep fun b hb => setRow_other _ _ b _ (by have := (HO.out.lt b hb).1; omega)).sl
            · rw [HQ.out]
              exact (HP.out.keep fun b hb => setRow_other _ _ b _ (by have := (HP.out.lt b hb).1; omega)).sl
        all_goals
          have HQ := Lib.hid hq
          (try subst hz)
          (try cases hz)
          all_goals
            clear hq HC
            go_wp2_with (refine wpList_store_row rfl 48 (.tmp 2) (.tmp 48) rfl w.heap.size zeroAC rfl rfl 48 zeroAC HB0.out (an_size _ _ _) rfl (an_one nil_sl nil_sl) ?_)
            refine bodyPost_ret (results_cell_tmp rfl _ _ w.heap.size 48 zeroAC (0, 0) _ rfl (HB0.out.row _) Tryd.underlying48 rfl (an_size _ _ _)) rfl ?_
            refine ⟨nilV, nilV, by rw [HQ.out]; rfl, ?_, ?_, below_setRow HW.out (Nat.le_refl _) _⟩
            · rw [HQ.out]
              exact Sl.nil
            · rw [HQ.out]
              exact Sl.nil
    · obtain ⟨n, hn⟩ : ∃ n, n = p.2.1.length := ⟨_, rfl⟩
      rw [← hn] at c0
      rw [hb] at c1
      have hpos : (0 : Int) < (n : Int) := by
        have := List.length_pos_iff.2 h0
        omega
      have H0 := Lib.hid h0
      have HBF := Lib.hid hb
      have HIT := Lib.hid (HL.out.cnt.items (Nat.le_refl _))
      clear hn h0 hb
      go_wp2_with fail
      refine (part_ok wr g t p HL.out.ra hgt (by have := HIT.out.1; omega) (by have := HIT.out.2; omega)).mono ?_
      rintro e w6 ⟨rfl, h1, h2⟩
      have HN := Lib.hid (HL.out.part hgr H0.out HBF.out h1 h2)
      have HM := Lib.hid (show wordsLeft w6 g < wordsLeft wr g by rw [h1.rd.left, HL.out.ra.rd.left]; exact rPart_less p H0.out)
      clear h1 h2 c0 c1
      go_wp2_with fail
      go_roundw
      case rel => exact ⟨_, HN.out⟩
      case measure => exact HM.out
end Go.Proofs.YtbfbcbhnknhgnaaDoor
