/-
  house.item: the item of a line. Conditions: a line of at most 1,000,000 bytes.
-/
import Derived.Test.YtldjgpnbkbmgoaaGreatDoorPR4
import Derived.Deep.CutBlock
set_option linter.unusedSimpArgs false
set_option linter.unusedVariables false
set_option maxRecDepth 100000
set_option maxHeartbeats 8000000
namespace Go.Proofs.YtldjgpnbkbmgoaaGreatDoor
open Go.RowKit Go.Lib
attribute [local go_sem ↓] load_req stop_req
theorem itR_draw (l : List UInt8) : (itR l).1.draw < 18446744073709551616 := by
  have hz : zeroIt.draw < 18446744073709551616 := by decide
  unfold itR
  simp only
  split
  · exact hz
  · split
    · exact rhex_lt _
    · split
      · exact hz
      · split
        · exact rhex_lt _
        · exact hz
theorem zeroR_fits : (zeroR 0).fits := ⟨⟨by decide, by decide, by decide⟩, by decide⟩
theorem readQ_fits (l : List UInt8) (hl : l.length ≤ 1000000) : (readQ l).1.fits := by
  have hfit := readS_fit l
  unfold readQ
  split
  · exact ⟨hfit.ok, by have := hfit.tx; show (readS l).1.txt.length + 13 ≤ _; omega⟩
  · exact zeroR_fits
theorem rdNum_rest (r : HRd) : (rdNum r).2.1 = (cutC 32 r.1).2.1 := by
  unfold rdNum
  simp only
  split <;> rfl
theorem rdNum_short (r : HRd) : (rdNum r).2.1.length ≤ r.1.length := by rw [rdNum_rest]; exact cutC_rest 32 r.1
theorem rdDraw_short (r : HRd) : (rdDraw r).2.1.length ≤ r.1.length := cutC_rest 32 r.1
theorem Own.below {α : Type} {enc : α → List Value} {k base : Nat} {e : TypeId} {w w' : World} {v : Value} {l : List α} (h : Own enc k e w base v l) (hb : Below w.heap.size w w') : Own enc k e w' base v l := h.keep fun b hv => hb.block b (h.lt b hv).2
def putAll (cs : Array Value) : Nat → List Value → Array Value
  | _, [] => cs
  | o, v :: r => putAll (cs.setIfInBounds o v) (o + 1) r
theorem Blk.puts {g : Nat} {t : TypeId} : ∀ (vs : List Value) (o : Nat) (w : World) (cs : Array Value), Blk w g t cs → Blk (w.setCells g o vs) g t (putAll cs o vs)
  | [], _, _, _, h => h
  | v :: r, o, _, _, h => Blk.puts r (o + 1) _ _ (h.put o v)
theorem Blk.puts_far {g b : Nat} {t : TypeId} {cs : Array Value} (hne : g ≠ b) : ∀ (vs : List Value) (o : Nat) (w : World), Blk w g t cs → Blk (w.setCells b o vs) g t cs
  | [], _, _, h => h
  | v :: r, o, _, h => Blk.puts_far hne r (o + 1) _ (h.far (p := ⟨b, o, none⟩) hne v)
theorem below_puts {B b : Nat} {w : World} (hb : B ≤ b) : ∀ (vs : List Value) (o : Nat) (wx : World), Below B w wx → Below B w (wx.setCells b o vs)
  | [], _, _, h => h
  | v :: r, o, _, h => below_puts hb r (o + 1) _ (h.setCell (p := ⟨b, o, none⟩) hb v)
theorem Blk.there_ {w : World} {g : Nat} {t : TypeId} {cs : Array Value} (h : Blk w g t cs) (o n : Nat) (hn : o + n ≤ cs.size) : w.there g o n :=
  fun j hj => ⟨by rw [h.cell, Array.getElem?_eq_getElem (by omega)]; rfl, h.frozen _⟩
abbrev z0 : HRw := ⟨zeroIt, none, 0⟩
theorem hiA_bs (k c n : Int) (A : Option Addr) (cap : Nat) (l : List UInt8) : (hiA ⟨{ zeroIt with kind := k, conn := c, n := n }, none, 0⟩).setIfInBounds 2 (.slice A l.length cap) = hiA ⟨{ zeroIt with kind := k, conn := c, n := n, bs := l }, A, cap⟩ := by kernel_rfl
theorem hiA_dr (k c n : Int) (d : Nat) : (hiA ⟨{ zeroIt with kind := k, conn := c, n := n }, none, 0⟩).setIfInBounds 3 (.int .u64 (d : Nat)) = hiA ⟨{ zeroIt with kind := k, conn := c, n := n, draw := d }, none, 0⟩ := by kernel_rfl
theorem hiA_q (x : HIt) (q : Req) : putAll (hiA ⟨x, none, 0⟩) 5 (rqC q).toList = hiA ⟨{ x with q := q }, none, 0⟩ := by kernel_rfl
structure IS (w wx : World) (g t : Nat) (rd : HRd) (r : HRw) : Prop where
  res : Blk wx w.heap.size 62 (hiA z0)
  rd : RdB wx g rd
  x : Blk wx t 62 (hiA r)
  own : Own byC 1 5 wx w.heap.size (.slice r.A r.x.bs.length r.cap) r.x.bs
  bel : Below w.heap.size w wx
  rg : w.heap.size < g
  gt : g < t
theorem IS.call {w wx wy : World} {g t : Nat} {rd rd' : HRd} {r : HRw} (h : IS w wx g t rd r) (hr : RdB wy g rd') (hg : wx.grownBy wy (some g)) : IS w wy g t rd' r :=
  ⟨h.res.grown hg (fun e => by have := Option.some.inj e; have := h.rg; omega), hr, h.x.grown hg (fun e => by have := Option.some.inj e; have := h.gt; omega),
    h.own.grown hg (.inr (h.own.ne_blk h.rd (by decide))), h.bel.trans (below_of_grown hg h.bel.size (fun k hk => by have := Option.some.inj hk; have := h.rg; omega)), h.rg, h.gt⟩
theorem IS.keep {w wx wy : World} {g t : Nat} {rd : HRd} {r : HRw} (h : IS w wx g t rd r) (hb : Below wx.heap.size wx wy) : IS w wy g t rd r :=
  ⟨h.res.below hb h.res.lt, h.rd.below hb, h.x.below hb h.x.lt, h.own.below hb, h.bel.trans (hb.mono h.bel.size), h.rg, h.gt⟩
theorem IS.row {w wx : World} {g t : Nat} {rd : HRd} {r : HRw} (h : IS w wx g t rd r) (k c n : Int) : IS w (wx.setRow t (hiA ⟨{ zeroIt with kind := k, conn := c, n := n }, none, 0⟩)) g t rd ⟨{ zeroIt with kind := k, conn := c, n := n }, none, 0⟩ := by
  have h1 := h.rg
  have h2 := h.gt
  exact ⟨h.res.farRow (show w.heap.size ≠ t by omega) _, Blk.farRow h.rd (show g ≠ t by omega) _, h.x.row _, Own.nil, below_setRow h.bel (by omega) _, h.rg, h.gt⟩
theorem IS.bytes {w wx : World} {g t : Nat} {rd : HRd} {k c n : Int} (h : IS w wx g t rd ⟨{ zeroIt with kind := k, conn := c, n := n }, none, 0⟩) {A : Option Addr} {cap : Nat} {l : List UInt8} (ho : Own byC 1 5 wx w.heap.size (.slice A l.length cap) l) :
    IS w (wx.setCell ⟨t, 2, none⟩ (.slice A l.length cap)) g t rd ⟨{ zeroIt with kind := k, conn := c, n := n, bs := l }, A, cap⟩ := by
  have h1 := h.rg
  have h2 := h.gt
  exact ⟨h.res.far (p := ⟨t, 2, none⟩) (show w.heap.size ≠ t by omega) _, Blk.far h.rd (p := ⟨t, 2, none⟩) (show g ≠ t by omega) _, by rw [← hiA_bs]; exact h.x.put 2 _, ho.set _ (ho.ne_blk h.x (by decide)), h.bel.setCell (p := ⟨t, 2, none⟩) (show w.heap.size ≤ t by omega) _, h.rg, h.gt⟩
theorem IS.draw {w wx : World} {g t : Nat} {rd : HRd} {k c n : Int} (h : IS w wx g t rd ⟨{ zeroIt with kind := k, conn := c, n := n }, none, 0⟩) (d : Nat) :
    IS w (wx.setCell ⟨t, 3, none⟩ (.int .u64 (d : Nat))) g t rd ⟨{ zeroIt with kind := k, conn := c, n := n, draw := d }, none, 0⟩ := by
  have h1 := h.rg
  have h2 := h.gt
  exact ⟨h.res.far (p := ⟨t, 3, none⟩) (show w.heap.size ≠ t by omega) _, Blk.far h.rd (p := ⟨t, 3, none⟩) (show g ≠ t by omega) _, by rw [← hiA_dr]; exact h.x.put 3 _, Own.nil, h.bel.setCell (p := ⟨t, 3, none⟩) (show w.heap.size ≤ t by omega) _, h.rg, h.gt⟩
theorem IS.badly {w wx : World} {g t : Nat} {rd : HRd} {r : HRw} (h : IS w wx g t rd r) (b : Bool) : IS w (wx.setCell ⟨g, 1, none⟩ (.bool b)) g t (rd.1, b) r := by
  have h1 := h.rg
  have h2 := h.gt
  exact ⟨h.res.far (p := ⟨g, 1, none⟩) (show w.heap.size ≠ g by omega) _, h.rd.put1 b, h.x.far (p := ⟨g, 1, none⟩) (show t ≠ g by omega) _, h.own.set _ (h.own.ne_blk h.rd (by decide)), h.bel.setCell (p := ⟨g, 1, none⟩) (show w.heap.size ≤ g by omega) _, h.rg, h.gt⟩
theorem IS.req {w wx : World} {g t : Nat} {rd : HRd} {x : HIt} (h : IS w wx g t rd ⟨x, none, 0⟩) (hx : x.bs = []) (q : Req) : IS w (wx.setCells t 5 (rqC q).toList) g t rd ⟨{ x with q := q }, none, 0⟩ := by
  have h1 := h.rg
  have h2 := h.gt
  refine ⟨h.res.puts_far (show w.heap.size ≠ t by omega) _ _ _, Blk.puts_far (show g ≠ t by omega) _ _ _ h.rd, by rw [← hiA_q]; exact h.x.puts _ 5 _, ?_, below_puts (show w.heap.size ≤ t by omega) _ _ _ h.bel, h.rg, h.gt⟩
  show Own byC 1 _ _ _ (.slice none x.bs.length 0) x.bs
  rw [hx]
  exact Own.nil
theorem IS.rowOff {w wx : World} {g t s : Nat} {rd : HRd} {r : HRw} (h : IS w wx g t rd r) {old : Array Value} (hb : Blk wx s 60 old) (hs : t < s) (cs : Array Value) : IS w (wx.setRow s cs) g t rd r := by
  have h1 := h.rg
  have h2 := h.gt
  exact ⟨h.res.farRow (show w.heap.size ≠ s by omega) _, Blk.farRow h.rd (show g ≠ s by omega) _, h.x.farRow (show t ≠ s by omega) _, h.own.keep (fun b hv => setRow_other _ _ _ _ (fun e => h.own.ne_blk hb (by decide) (by rw [hv, e]))), below_setRow h.bel (by omega) _, h.rg, h.gt⟩
def ItPost (w : World) (p : HIt × Bool) (e : Ending) (w' : World) : Prop :=
  ∃ A cap, e = .returned (.tuple #[.agg (hiA ⟨p.1, A, cap⟩), .bool p.2]) ∧ Own byC 1 5 w' w.heap.size (.slice A p.1.bs.length cap) p.1.bs ∧ Below w.heap.size w w'
theorem item_ok (l : List UInt8) (w : World) (hl : l.length ≤ 1000000) : Calls Tryz.prog 21 #[strV l] w (ItPost w (itL l)) := by
  have hq := Lib.hid (fun (r : List UInt8) (h : r.length ≤ 1000000) => readQ_fits r h)
  have hb0 := Blk.new w 62 (hiA z0)
  have hW0 := (Below.refl w.heap.size w).alloc (Nat.le_refl _) (.cells (hiA z0) 62)
  have hz1 : (w.alloc (.cells (hiA z0) 62)).heap.size = w.heap.size + 1 := by simp
  obtain ⟨w1, hst1⟩ : ∃ w1, w.alloc (.cells (hiA z0) 62) = w1 := ⟨_, rfl⟩
  rw [hst1] at hb0 hW0 hz1
  have hb1 := hb0.alloc (.cells #[strV l, .bool false] 81)
  have hr1 := Blk.new w1 81 #[strV l, .bool false]
  have hW1 := hW0.alloc hW0.size (.cells #[strV l, .bool false] 81)
  have hz2 : (w1.alloc (.cells #[strV l, .bool false] 81)).heap.size = w.heap.size + 2 := by simp [hz1]
  rw [hz1] at hr1
  obtain ⟨w2, hst2⟩ : ∃ w2, w1.alloc (.cells #[strV l, .bool false] 81) = w2 := ⟨_, rfl⟩
  rw [hst2] at hb1 hW1 hz2 hr1
  have hb2 := hb1.alloc (.cells (hiA z0) 62)
  have hr2 := hr1.alloc (.cells (hiA z0) 62)
  have hx2 := Blk.new w2 62 (hiA z0)
  have hW2 := hW1.alloc hW1.size (.cells (hiA z0) 62)
  rw [hz2] at hx2
  obtain ⟨w3, hst3⟩ : ∃ w3, w2.alloc (.cells (hiA z0) 62) = w3 := ⟨_, rfl⟩
  rw [hst3] at hb2 hr2 hx2 hW2
  obtain ⟨g, hg⟩ : ∃ g, w.heap.size + 1 = g := ⟨_, rfl⟩
  obtain ⟨t, ht⟩ : ∃ t, w.heap.size + 2 = t := ⟨_, rfl⟩
  rw [hg] at hr2 hz1
  rw [ht] at hx2 hz2
  have hs3 : IS w w3 g t (l, false) z0 := ⟨hb2, hr2, hx2, Own.nil, hW2, by omega, by omega⟩
  have HS := Lib.hid hs3
  clear hb0 hW0 hb1 hr1 hW1 hb2 hr2 hx2 hW2 hs3
  rw [show hiA z0 = zeroHi from by kernel_rfl] at hst1 hst3
  have hlr := cutC_rest 32 l
  obtain ⟨W, hW⟩ : ∃ W, W = (cutC 32 l).1 := ⟨_, rfl⟩
  obtain ⟨p0, hp0⟩ : ∃ p0 : HRd, p0 = ((cutC 32 l).2.1, false) := ⟨_, rfl⟩
  have hl0 : p0.1.length ≤ 1000000 := by rw [hp0]; show (cutC 32 l).2.1.length ≤ _; omega
  have HC := Lib.hid (show itR l = if W = wFeed then ({ zeroIt with kind := 1, conn := (rdNum p0).1, bs := (rdBytes (rdNum p0).2).1 }, (rdBytes (rdNum p0).2).2.2)
    else if W = wPick then ({ zeroIt with kind := 2, conn := (rdNum p0).1, draw := (rdDraw (rdNum p0).2).1 }, (rdDraw (rdNum p0).2).2.2)
    else if W = wTick then ({ zeroIt with kind := 3, n := (rdNum p0).1 }, (rdNum p0).2.2)
    else if W = wAsk then ({ zeroIt with kind := 4, conn := (rdNum p0).1, draw := (rdDraw (rdNum p0).2).1, q := (readQ (rdDraw (rdNum p0).2).2.1).1 }, (rdDraw (rdNum p0).2).2.2 || decide ((readQ (rdDraw (rdNum p0).2).2.1).2 ≠ 0))
    else (zeroIt, false) by rw [hW, hp0]; rfl)
  have HWP := Lib.hid (fun wx (h : RdB wx g (l, false)) => hword_ok wx g (l, false) h (by show l.length ≤ _; omega))
  rw [← hW, ← hp0] at HWP
  have HP2 := Lib.hid (show p0.2 = false by rw [hp0])
  clear hW hp0 hlr
  have hne : ∀ v : List UInt8, W ≠ v → (W == v) = false := fun v h => by simpa using h
  have HNE := Lib.hid hne
  clear hne
  go_enter Tryz.func21, Tryz.ntmps21
  go_wp2_with fail
  refine (HWP.out w3 HS.out.rd).mono ?_
  rintro e w4 ⟨rfl, hr, hgr⟩
  have HS := Lib.hid (HS.out.call hr hgr)
  clear hr hgr hst1 hst2 hst3 hz1 hz2
  go_upto_block 0 with fail
  go_cut [] (fun wx => ∃ (rd : HRd) (r : HRw), IS w wx g t rd r ∧ itR l = (r.x, rd.2) ∧ r.x.q.fits)
  case first =>
    by_cases h1 : W = wFeed
    · have k1 : (W == [102, 101, 101, 100]) = true := by rw [h1]; rfl
      rw [if_pos h1] at HC
      clear h1
      go_wp2_with fail
      refine (hnumber_ok w4 g p0 HS.out.rd hl0).mono ?_
      rintro e w5 ⟨rfl, hr, hgr⟩
      have HS := Lib.hid (HS.out.call hr hgr)
      clear hr hgr
      go_wp2_with (refine wpList_store_row rfl 62 (.tmp 5) (.tmp 17) rfl t (hiA ⟨{ zeroIt with kind := 1, conn := (rdNum p0).1, n := 0 }, none, 0⟩) rfl rfl 62 _ HS.out.x (hit_size _) rfl (hiA_one _) ?_)
      have HS := Lib.hid (HS.out.row 1 (rdNum p0).1 (0))
      obtain ⟨w6, hst6⟩ : ∃ w6, w5.setRow t (hiA ⟨{ zeroIt with kind := 1, conn := (rdNum p0).1, n := 0 }, none, 0⟩) = w6 := ⟨_, rfl⟩
      rw [hst6] at HS ⊢
      clear hst6
      have hl1 : (rdNum p0).2.1.length ≤ 1000000 := Nat.le_trans (rdNum_short p0) hl0
      go_wp2_with fail
      refine (hbytes_ok w6 g (rdNum p0).2 HS.out.rd hl1).mono ?_
      rintro e w7 ⟨v, rfl, ho, hr, hgr⟩
      have hsz := HS.out.bel.size
      have HS := Lib.hid (HS.out.call hr hgr)
      obtain ⟨A, cap, rfl⟩ := ho.form
      have HO := Lib.hid (ho.more hsz)
      have f2 := HS.out.x.frozen 2
      have d2 := (show w7.cell? ⟨t, 2, none⟩ = some (.slice none 0 0) from HS.out.x.is 2 rfl)
      clear hr hgr ho hsz
      go_wp2_with fail
      go_meet
      exact ⟨_, _, HS.out.bytes HO.out, HC.out.trans rfl, zeroR_fits⟩
    · have k1 : (W == [102, 101, 101, 100]) = false := HNE.out wFeed h1
      rw [if_neg h1] at HC
      clear h1
      by_cases h2 : W = wPick
      · have k2 : (W == [112, 105, 99, 107]) = true := by rw [h2]; rfl
        rw [if_pos h2] at HC
        clear h2
        go_wp2_with fail
        refine (hnumber_ok w4 g p0 HS.out.rd hl0).mono ?_
        rintro e w5 ⟨rfl, hr, hgr⟩
        have HS := Lib.hid (HS.out.call hr hgr)
        clear hr hgr
        go_wp2_with (refine wpList_store_row rfl 62 (.tmp 5) (.tmp 25) rfl t (hiA ⟨{ zeroIt with kind := 2, conn := (rdNum p0).1, n := 0 }, none, 0⟩) rfl rfl 62 _ HS.out.x (hit_size _) rfl (hiA_one _) ?_)
        have HS := Lib.hid (HS.out.row 2 (rdNum p0).1 (0))
        obtain ⟨w6, hst6⟩ : ∃ w6, w5.setRow t (hiA ⟨{ zeroIt with kind := 2, conn := (rdNum p0).1, n := 0 }, none, 0⟩) = w6 := ⟨_, rfl⟩
        rw [hst6] at HS ⊢
        clear hst6
        have hl1 : (rdNum p0).2.1.length ≤ 1000000 := Nat.le_trans (rdNum_short p0) hl0
        go_wp2_with fail
        refine (hdraw_ok w6 g (rdNum p0).2 HS.out.rd hl1).mono ?_
        rintro e w7 ⟨rfl, hr, hgr⟩
        have HS := Lib.hid (HS.out.call hr hgr)
        have f3 := HS.out.x.frozen 3
        have d3 := (show w7.cell? ⟨t, 3, none⟩ = some (.int .u64 0) from HS.out.x.is 3 rfl)
        clear hr hgr
        go_wp2_with fail
        go_meet
        exact ⟨_, _, HS.out.draw _, HC.out.trans rfl, zeroR_fits⟩
      · have k2 : (W == [112, 105, 99, 107]) = false := HNE.out wPick h2
        rw [if_neg h2] at HC
        clear h2
        by_cases h3 : W = wTick
        · have k3 : (W == [116, 105, 99, 107]) = true := by rw [h3]; rfl
          rw [if_pos h3] at HC
          clear h3
          go_wp2_with fail
          refine (hnumber_ok w4 g p0 HS.out.rd hl0).mono ?_
          rintro e w5 ⟨rfl, hr, hgr⟩
          have HS := Lib.hid (HS.out.call hr hgr)
          clear hr hgr
          go_wp2_with (refine wpList_store_row rfl 62 (.tmp 5) (.tmp 33) rfl t (hiA ⟨{ zeroIt with kind := 3, conn := 0, n := (rdNum p0).1 }, none, 0⟩) rfl rfl 62 _ HS.out.x (hit_size _) rfl (hiA_one _) ?_)
          have HS := Lib.hid (HS.out.row 3 0 ((rdNum p0).1))
          go_wp2_with fail
          go_meet
          exact ⟨_, _, HS.out, HC.out.trans rfl, zeroR_fits⟩
        · have k3 : (W == [116, 105, 99, 107]) = false := HNE.out wTick h3
          rw [if_neg h3] at HC
          clear h3
          by_cases h4 : W = wAsk
          · have k4 : (W == [97, 115, 107]) = true := by rw [h4]; rfl
            rw [if_pos h4] at HC
            clear h4
            go_wp2_with fail
            refine (hnumber_ok w4 g p0 HS.out.rd hl0).mono ?_
            rintro e w5 ⟨rfl, hr, hgr⟩
            have HS := Lib.hid (HS.out.call hr hgr)
            clear hr hgr
            go_wp2_with (refine wpList_store_row rfl 62 (.tmp 5) (.tmp 38) rfl t (hiA ⟨{ zeroIt with kind := 4, conn := (rdNum p0).1, n := 0 }, none, 0⟩) rfl rfl 62 _ HS.out.x (hit_size _) rfl (hiA_one _) ?_)
            have HS := Lib.hid (HS.out.row 4 (rdNum p0).1 (0))
            obtain ⟨w6, hst6⟩ : ∃ w6, w5.setRow t (hiA ⟨{ zeroIt with kind := 4, conn := (rdNum p0).1, n := 0 }, none, 0⟩) = w6 := ⟨_, rfl⟩
            rw [hst6] at HS ⊢
            clear hst6
            have hl1 : (rdNum p0).2.1.length ≤ 1000000 := Nat.le_trans (rdNum_short p0) hl0
            go_wp2_with fail
            refine (hdraw_ok w6 g (rdNum p0).2 HS.out.rd hl1).mono ?_
            rintro e w7 ⟨rfl, hr, hgr⟩
            have HS := Lib.hid (HS.out.call hr hgr)
            have f3 := HS.out.x.frozen 3
            have d3 := (show w7.cell? ⟨t, 3, none⟩ = some (.int .u64 0) from HS.out.x.is 3 rfl)
            clear hr hgr
            have HS8 := Lib.hid (HS.out.draw (rdDraw (rdNum p0).2).1)
            obtain ⟨w8, hst8⟩ : ∃ w8, w7.setCell ⟨t, 3, none⟩ (.int .u64 ((rdDraw (rdNum p0).2).1 : Nat)) = w8 := ⟨_, rfl⟩
            rw [hst8] at HS8
            obtain ⟨d, hd⟩ : ∃ d, rdDraw (rdNum p0).2 = d := ⟨_, rfl⟩
            have hl2 : d.2.1.length ≤ 1000000 := by rw [← hd]; exact Nat.le_trans (rdDraw_short _) hl1
            rw [hd] at HS8 HC hst8 ⊢
            have c0 := HS8.out.rd.rest
            go_wp2_with fail
            clear f3 d3 hst8
            refine (Read_ok d.2.1 w8 (by omega)).mono ?_
            rintro e w9 ⟨rfl, hb⟩
            have HS := Lib.hid (HS8.out.keep hb)
            have HQF := Lib.hid (hq.out d.2.1 hl2)
            obtain ⟨q, hqq⟩ : ∃ q, readQ d.2.1 = q := ⟨_, rfl⟩
            rw [hqq] at HQF HC
            rw [hqq]
            have HB := Lib.hid (Blk.new w9 60 zeroC)
            have HSA := Lib.hid (HS.out.keep ((Below.refl w9.heap.size w9).alloc (Nat.le_refl _) (.cells zeroC 60)))
            obtain ⟨s, hs⟩ : ∃ s, s = w9.heap.size := ⟨_, rfl⟩
            obtain ⟨wa, hsta⟩ : ∃ wa, w9.alloc (.cells zeroC 60) = wa := ⟨_, rfl⟩
            have hts : t < s := by have := HS.out.x.lt; omega
            have hws : w.heap.size ≤ s := by have := HS.out.bel.size; omega
            rw [hsta, ← hs] at HB
            rw [hsta] at HSA
            have hs' := hs.symm
            clear hb hd hqq c0 hs
            have hB2 := HB.out.row (rqC q.1)
            have hS2 := HSA.out.rowOff HB.out hts (rqC q.1)
            obtain ⟨wb, hstb⟩ : ∃ wb, wa.setRow s (rqC q.1) = wb := ⟨_, rfl⟩
            rw [hstb] at hB2 hS2
            have hfz : wb.frozen? ⟨g, 1, none⟩ = false := hS2.rd.fz
            have hcz := hS2.rd.bad
            have hsg : s ≠ g := by have := hS2.gt; omega
            have HB2 := Lib.hid hB2
            have HS2 := Lib.hid hS2
            clear hB2 hS2
            have hstb' : wa.setRow s (rqC q.1) = wb := hstb
            cases hd2 : d.2.2
            all_goals
              rw [hd2] at hcz HC
              go_wp2_with (first
                | (refine wpList_store_row rfl 60 (.tmp 6) (.tmp 48) rfl s (rqC q.1) rfl rfl 60 zeroC HB.out (rq_size _) rfl (rq_one _) ?_)
                | (refine wpList_load_row rfl 60 (.tmp 6) rfl s rfl 60 (rqC q.1) (0, 0) _ (HB2.out.far (p := ⟨g, 1, none⟩) hsg _) Tryz.underlying60 rfl (rq_size _) ?_)
                | (refine wpList_store_mid rfl 60 (.tmp 62) (.tmp 61) rfl t 5 (rqC q.1) rfl rfl ((HS2.out.badly _).x.there_ 5 (rqC q.1).size (by show 5 + 24 ≤ 29; decide)) (rq_size _) (rq_one _) ?_))
              go_meet
              exact ⟨_, _, (HS2.out.badly _).req rfl q.1, HC.out.trans (Prod.ext rfl (by simp; try (rw [Bool.eq_iff_iff]; simp))), HQF.out⟩
          · have k4 : (W == [97, 115, 107]) = false := HNE.out wAsk h4
            rw [if_neg h4] at HC
            clear h4
            go_wp2_with fail
            go_meet
            exact ⟨_, z0, HS.out, HC.out.trans (by rw [HP2.out]), zeroR_fits⟩
  case rest =>
    obtain ⟨rd, r, hs, hc, hf⟩ := hcut
    have hdr := itR_draw l
    rw [hc] at hdr
    obtain ⟨bd, hbd⟩ : ∃ bd, rd.2 = bd := ⟨_, rfl⟩
    have c1 := hs.rd.bad
    rw [hbd] at c1 hc
    have HS := Lib.hid hs
    have HL := Lib.hid (show itL l = if bd = false ∧ itOk r.x = true ∧ itT r.x = l then (r.x, true) else (zeroIt, false) by unfold itL; rw [hc])
    have HR := Lib.hid (fun w => hright_ok r w hf)
    have HD := Lib.hid hdr
    have HF := Lib.hid hf
    clear hs hc hdr hf hbd HC HWP HNE hq hl0
    cases bd
    · cases hk : itOk r.x
      · have HE := Lib.hid (show itL l = (zeroIt, false) by rw [HL.out, if_neg (by simp [hk])])
        have HK := Lib.hid hk
        clear hk
        go_wp2_with (refine load_bx rfl 62 (.tmp 5) rfl t rfl 62 (hiA r) _ HS.out.x Tryz.underlying62 rfl (hit_size r) ?_)
        refine (HR.out _).mono ?_
        rintro e wr ⟨rfl, hb⟩
        have HS := Lib.hid (HS.out.keep hb)
        have HZ := Lib.hid HS.out.res
        rw [HK.out]
        clear hb c1
        go_wp2_with (refine wpList_store_row rfl 62 (.tmp 2) (.tmp 78) rfl w.heap.size (hiA z0) rfl rfl 62 _ HZ.out (hit_size _) rfl (hiA_one _) ?_)
        refine bodyPost_ret (results_cell_tmp rfl _ _ w.heap.size 62 (hiA z0) (0, 0) _ rfl (HZ.out.row _) Tryz.underlying62 rfl (hit_size _)) rfl ?_
        unfold ItPost
        rw [HE.out]
        exact ⟨none, 0, rfl, Own.nil, below_setRow HS.out.bel (Nat.le_refl _) _⟩
      · by_cases he : itT r.x = l
        · have HE := Lib.hid (show itL l = (r.x, true) by rw [HL.out, if_pos ⟨rfl, hk, he⟩])
          have kn : (itT r.x == l) = true := by rw [he]; simp
          have HK := Lib.hid hk
          clear hk
          go_wp2_with (refine load_bx rfl 62 (.tmp 5) rfl t rfl 62 (hiA r) _ HS.out.x Tryz.underlying62 rfl (hit_size r) ?_)
          refine (HR.out _).mono ?_
          rintro e wr ⟨rfl, hb⟩
          have HS := Lib.hid (HS.out.keep hb)
          have HZ := Lib.hid HS.out.res
          rw [HK.out]
          clear hb c1
          clear he
          go_wp2_with (refine load_bx rfl 62 (.tmp 5) rfl t rfl 62 (hiA r) _ HS.out.x Tryz.underlying62 rfl (hit_size r) ?_)
          refine (hline_ok2 r _ HS.out.own.sl HF.out HD.out HK.out).mono ?_
          rintro e wl ⟨rfl, hb⟩
          have HS := Lib.hid (HS.out.keep hb)
          have HZ := Lib.hid HS.out.res
          clear hb
          go_wp2_with (first
            | (refine load_bx rfl 62 (.tmp 5) rfl t rfl 62 (hiA r) _ HS.out.x Tryz.underlying62 rfl (hit_size r) ?_)
            | (refine wpList_store_row rfl 62 (.tmp 2) (.tmp 79) rfl w.heap.size (hiA r) rfl rfl 62 _ HZ.out (hit_size _) rfl (hiA_one _) ?_))
          refine bodyPost_ret (results_cell_tmp rfl _ _ w.heap.size 62 (hiA r) (0, 0) _ rfl (HZ.out.row _) Tryz.underlying62 rfl (hit_size _)) rfl ?_
          unfold ItPost
          rw [HE.out]
          exact ⟨r.A, r.cap, rfl, HS.out.own.keep (fun b hb => setRow_other _ _ _ _ (fun e => HS.out.own.ne_blk HZ.out (by decide) (by rw [hb, e]))), below_setRow HS.out.bel (Nat.le_refl _) _⟩
        · have HE := Lib.hid (show itL l = (zeroIt, false) by rw [HL.out, if_neg (by simp [he])])
          have kn : (itT r.x == l) = false := by simpa using he
          have HK := Lib.hid hk
          clear hk
          go_wp2_with (refine load_bx rfl 62 (.tmp 5) rfl t rfl 62 (hiA r) _ HS.out.x Tryz.underlying62 rfl (hit_size r) ?_)
          refine (HR.out _).mono ?_
          rintro e wr ⟨rfl, hb⟩
          have HS := Lib.hid (HS.out.keep hb)
          have HZ := Lib.hid HS.out.res
          rw [HK.out]
          clear hb c1
          clear he
          go_wp2_with (refine load_bx rfl 62 (.tmp 5) rfl t rfl 62 (hiA r) _ HS.out.x Tryz.underlying62 rfl (hit_size r) ?_)
          refine (hline_ok2 r _ HS.out.own.sl HF.out HD.out HK.out).mono ?_
          rintro e wl ⟨rfl, hb⟩
          have HS := Lib.hid (HS.out.keep hb)
          have HZ := Lib.hid HS.out.res
          clear hb
          go_wp2_with (refine wpList_store_row rfl 62 (.tmp 2) (.tmp 78) rfl w.heap.size (hiA z0) rfl rfl 62 _ HZ.out (hit_size _) rfl (hiA_one _) ?_)
          refine bodyPost_ret (results_cell_tmp rfl _ _ w.heap.size 62 (hiA z0) (0, 0) _ rfl (HZ.out.row _) Tryz.underlying62 rfl (hit_size _)) rfl ?_
          unfold ItPost
          rw [HE.out]
          exact ⟨none, 0, rfl, Own.nil, below_setRow HS.out.bel (Nat.le_refl _) _⟩
    · have HE := Lib.hid (show itL l = (zeroIt, false) by rw [HL.out, if_neg (by simp)])
      have HZ := Lib.hid HS.out.res
      go_wp2_with (refine wpList_store_row rfl 62 (.tmp 2) (.tmp 78) rfl w.heap.size (hiA z0) rfl rfl 62 _ HZ.out (hit_size _) rfl (hiA_one _) ?_)
      refine bodyPost_ret (results_cell_tmp rfl _ _ w.heap.size 62 (hiA z0) (0, 0) _ rfl (HZ.out.row _) Tryz.underlying62 rfl (hit_size _)) rfl ?_
      unfold ItPost
      rw [HE.out]
      exact ⟨none, 0, rfl, Own.nil, below_setRow HS.out.bel (Nat.le_refl _) _⟩
end Go.Proofs.YtldjgpnbkbmgoaaGreatDoor

