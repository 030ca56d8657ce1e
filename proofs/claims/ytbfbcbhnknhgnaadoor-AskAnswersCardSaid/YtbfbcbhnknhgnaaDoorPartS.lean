/-
  The reader takes an item of an answer. Conditions: as each states.
-/
import Derived.Test.YtbfbcbhnknhgnaaDoorPartR
import Derived.RegionTactic
import Derived.Deep.RegionLaw
namespace Go.Proofs.YtbfbcbhnknhgnaaDoor
open Go.RowKit

theorem Rd.still {w w' : World} {g : Nat} {s : RSt} (h : Rd w g s) (hk : ∀ b, b ≤ g → w'.heap[b]? = w.heap[b]?) : Rd w' g s := by
  obtain ⟨A, cap, h1, h2, h3⟩ := h
  exact ⟨A, cap, (hk g (Nat.le_refl _)).trans h1, h2.keep fun b hb => hk b (Nat.le_of_lt hb), h3⟩
theorem Own.apart {α β : Type} {enc : α → List Value} {enc' : β → List Value} {k k' : Nat} {e e' : TypeId} {w : World} {base base' : Nat} {v v' : Value} {l : List α} {l' : List β} (h : Own enc k e w base v l) (h' : Own enc' k' e' w base' v' l') (hne : e ≠ e') : v.ownBlock = none ∨ v.ownBlock ≠ v'.ownBlock := by
  rcases h.2 with ⟨rfl, _⟩ | ⟨g, cap, cur, rfl, _, hg, _⟩
  · exact .inl rfl
  · right
    rcases h'.2 with ⟨rfl, _⟩ | ⟨g', cap', cur', rfl, _, hg', _⟩
    · simp [Value.ownBlock]
    · simp only [Value.ownBlock, ne_eq, Option.some.injEq]
      rintro rfl
      rw [hg] at hg'
      simp only [Option.some.injEq, Obj.cells.injEq] at hg'
      exact hne hg'.2.1
theorem Own.drew {α : Type} {enc : α → List Value} {k : Nat} {e : TypeId} {w : World} {base : Nat} {v : Value} {l : List α} (h : Own enc k e w base v l) : Own enc k e w.drew base v l := h
def zS : Array Value := #[.int .i64 0, .int .i64 0, .int .i64 0, .int .i64 0, .int .i64 0, .int .i64 0]
def zE : Array Value := #[.int .i64 0, .int .i64 0, .int .i64 0, .int .i64 0]

set_option maxRecDepth 100000 in
set_option maxHeartbeats 4000000 in
theorem part_seen_ok (w : World) (g t : Nat) (a : Ans) (s : RSt) (h : RA w g t a s) (hgt : g < t) (hx : (rW s).1 = seenL) (hn : a.seen.length ≤ 100000) :
    Calls Tryd.prog 41 #[.pointer (some ⟨g, 0, none⟩), .pointer (some ⟨t, 0, none⟩)] w (AnP w g t (pSeen (a, (rW s).2))) := by
  have HH := Lib.hid h
  have HX := Lib.hid hx
  clear h hx
  obtain ⟨q, hq⟩ : ∃ q, (rW s).2 = q := ⟨_, rfl⟩
  rw [hq]
  have HQ := Lib.hid hq
  clear hq
  go_enter Tryd.func41, Tryd.ntmps41
  go_wp2_with fail
  refine (word_ok w g s HH.out.rd).mono ?_
  rintro e w1 ⟨rfl, h1, h2⟩
  rw [HX.out]
  rw [HQ.out] at h1
  have H1 := Lib.hid (HH.out.word hgt h1 h2)
  clear h1 h2
  obtain ⟨sv, ev, hb, ho, hp⟩ := H1.out.1.blk
  have hlt := hb.lt
  obtain ⟨sb, hsb⟩ : ∃ sb, w1.heap.size = sb := ⟨_, rfl⟩
  have hal := (Below.refl w1.heap.size w1).alloc (Nat.le_refl _) (.cells zS 74)
  have hnb := Blk.new w1 74 zS
  rw [hsb] at hnb hlt
  have HB := Lib.hid (hb.alloc (.cells zS 74))
  have HO := Lib.hid (ho.alloc (.cells zS 74))
  have HP := Lib.hid (hp.alloc (.cells zS 74))
  have HR := Lib.hid (H1.out.1.rd.keep hal)
  have HW := Lib.hid (H1.out.2.alloc (Nat.le_of_lt (by have := H1.out.1.rd.lt; have := H1.out.2.size; have := HH.out.rd.lt; omega)) (.cells zS 74))
  have HSO := Lib.hid (fun b hb => (ho.lt b hb).2)
  have HSP := Lib.hid (fun b hb => (hp.lt b hb).2)
  have hz2 : (w1.alloc (.cells zS 74)).heap.size = sb + 1 := by rw [← hsb]; simp
  obtain ⟨w2, hst2⟩ : ∃ w2, w1.alloc (.cells zS 74) = w2 := ⟨_, rfl⟩
  rw [hst2] at HB HO HP HR HW hnb hz2
  rw [hsb] at HSO HSP
  have HN := Lib.hid hnb
  have HZ := Lib.hid hz2
  unfold zS at hst2
  clear hb ho hp hal hnb H1 HH hz2
  go_wp2_with fail
  refine (into_new w2 g q HR.out sb 74 zS HN.out (by omega) [0, 1] (by simp [zS]) _ (by rfl) _ (by rfl) (by decide) _ (by rfl) (by simp)).mono ?_
  rintro e w3 ⟨rfl, h1, h2, h3⟩
  clear hst2 hsb
  have hg2 := HW.out.size
  have HB := Lib.hid (h3.blk HB.out (by omega) (by omega))
  have HO := Lib.hid (HO.out.two h3 fun b hb => by have := (HO.out.lt b hb).1; have := HSO.out b hb; omega)
  have HP := Lib.hid (HP.out.two h3 fun b hb => by have := (HP.out.lt b hb).1; have := HSP.out b hb; omega)
  have HW := Lib.hid (HW.out.trans (h3.below (Nat.le_refl _) (by omega) (by have := HZ.out; omega)))
  obtain ⟨p3, hp3⟩ : ∃ p, p = intoS [0, 1] (zS, q) := ⟨_, rfl⟩
  rw [← hp3] at h1 h2
  have hps : p3.1.size = 6 := by rw [hp3, intoS_size]; rfl
  have HP3 := Lib.hid hp3
  have HR := Lib.hid h1
  have HN := Lib.hid h2
  have HZ3 := Lib.hid (show sb + 1 ≤ w3.heap.size by have := h3.size; have := HZ.out; omega)
  clear h1 h2 h3 hp3 HZ hg2
  go_wp2_with fail
  refine (rect_rd w3 g p3.2 HR.out sb 74 p3.1 HN.out (by omega) 2 (by omega) (by decide)).mono ?_
  rintro e w4 ⟨rfl, h1, h2, h3⟩
  have HB := Lib.hid (h3.blk HB.out (by omega) (by omega))
  have HO := Lib.hid (HO.out.two h3 fun b hb => by have := (HO.out.lt b hb).1; have := HSO.out b hb; omega)
  have HP := Lib.hid (HP.out.two h3 fun b hb => by have := (HP.out.lt b hb).1; have := HSP.out b hb; omega)
  have HW := Lib.hid (HW.out.trans (h3.below (Nat.le_refl _) (by omega) (by have := HZ3.out; omega)))
  obtain ⟨x, hx⟩ : ∃ x, x = (rSn q).1 := ⟨_, rfl⟩
  have hc4 : (intoS [2, 2 + 1, 2 + 2, 2 + 3] (p3.1, p3.2)).1 = (snC x).toArray := by rw [HP3.out, hx]; rfl
  have hs4 : (intoS [2, 2 + 1, 2 + 2, 2 + 3] (p3.1, p3.2)).2 = (rSn q).2 := by rw [HP3.out]; rfl
  rw [hc4] at h2
  rw [hs4] at h1
  have HR := Lib.hid h1
  have HN := Lib.hid h2
  have HX4 := Lib.hid hx
  have HZ4 := Lib.hid (show sb + 1 ≤ w4.heap.size by have := h3.size; have := HZ3.out; omega)
  clear h1 h2 h3 hc4 hs4 hps hx HP3 HZ3 HSO HSP
  obtain ⟨A, c, rfl⟩ := HO.out.form
  have d0 := (show World.cell? _ ⟨t, 10, none⟩ = some (.slice A a.seen.length c) from HB.out.is 10 rfl)
  have d1 := (show World.cell? (w4.alloc (.cells #[.int .i64 x.id, .int .i64 x.level, .int .i64 x.x0, .int .i64 x.y0, .int .i64 x.x1, .int .i64 x.y1] 74)) ⟨t, 10, none⟩ = some (.slice A a.seen.length c) from (HB.out.alloc _).is 10 rfl)
  have e0 := (show World.cell? _ ⟨sb, 0, none⟩ = some (.int .i64 x.id) from HN.out.is 0 rfl)
  have e1 := (show World.cell? _ ⟨sb, 1, none⟩ = some (.int .i64 x.level) from HN.out.is 1 rfl)
  have e2 := (show World.cell? _ ⟨sb, 2, none⟩ = some (.int .i64 x.x0) from HN.out.is 2 rfl)
  have e3 := (show World.cell? _ ⟨sb, 3, none⟩ = some (.int .i64 x.y0) from HN.out.is 3 rfl)
  have e4 := (show World.cell? _ ⟨sb, 4, none⟩ = some (.int .i64 x.x1) from HN.out.is 4 rfl)
  have e5 := (show World.cell? _ ⟨sb, 5, none⟩ = some (.int .i64 x.y1) from HN.out.is 5 rfl)
  have hsz : t + 1 ≤ w4.heap.size := by have := HZ4.out; omega
  have hne : (Value.slice A a.seen.length c).ownBlock ≠ some t := HO.out.ne_blk HB.out (by decide)
  have HNE := Lib.hid hne
  clear hne
  go_wp2_with fail
  go_region_law ((refine step_one sn_elem sn_enc rfl (.tmp 66) (.tmp 68) rfl rfl (Own.alloc HO.out _) x w4.heap.size 1 rfl (Blk.lay (Blk.new _ _ _)) (by unfold maxLen; omega) (by omega) (by simp; omega) ?_); intro g' cap w5 hown5 hgrow hat hlt5; have hb5 : Blk w5 t 48 _ := (hgrow.block t (by simp; omega) (fun e => HNE.out e.symm)).trans (Blk.alloc HB.out _); have g0 := hb5.is 10 rfl; have g1 := hb5.frozen 10)
  all_goals
    go_wp2_with fail
    refine bodyPost_ret (results_none rfl _ _ _) rfl ?_
    have hlo : ∀ b, (Value.slice A a.seen.length c).ownBlock = some b → t + 1 ≤ b := fun b hb => (HO.out.lt b hb).1
    have hset : ∀ (u : Value) (b : Nat), b ≠ t → (w5.setCell ⟨t, 10, none⟩ u).heap[b]? = w5.heap[b]? := fun u b hb => Below.heap_setCell _ _ _ _ hb
    refine ⟨rfl, ⟨?_, _, ev, hb5.put 10 _, ?_, ?_⟩, ?_⟩
    · rw [show (pSeen (a, q)).2 = (rSn q).2 from rfl]
      refine HR.out.still fun b hb => ?_
      refine (hset _ b (by omega)).trans ((hgrow.block b (by simp; omega) (fun e => by have := hlo b e.symm; omega)).trans ?_)
      exact Below.heap_alloc w4 _ b (by omega)
    · rw [show (pSeen (a, q)).1.seen = a.seen ++ [x] by rw [HX4.out]; rfl]
      have := hown5.set (p := ⟨t, 10, none⟩) (.slice (some ⟨g', 0, none⟩) (a.seen.length + 1) cap) (hown5.ne_blk hb5 (by decide))
      exact this
    · exact (((HP.out.alloc _).drew.grown hgrow (HP.out.apart HO.out (by decide))).set _ (fun e => by have := (HP.out.lt _ e).1; have e2 : (⟨t, 10, none⟩ : Addr).block = t := rfl; omega))
    · exact (((HW.out.alloc (by have := HR.out.lt; omega) _).drew.grown hgrow (by simp; omega) (fun k hk => by have := hlo k hk; omega)).setCell (Nat.le_of_lt hgt) _)
end Go.Proofs.YtbfbcbhnknhgnaaDoor
