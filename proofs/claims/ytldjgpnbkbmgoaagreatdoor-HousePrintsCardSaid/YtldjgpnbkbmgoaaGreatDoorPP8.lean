/-
  What items may be: the reference's May. Conditions: as each states.
-/
import Derived.Test.YtldjgpnbkbmgoaaGreatDoorPP2
import Derived.Test.YtldjgpnbkbmgoaaGreatDoorPP3
import Derived.Test.YtldjgpnbkbmgoaaGreatDoorPP7
import Derived.Deep.DeepCutAuto
set_option linter.unusedSimpArgs false
set_option linter.unusedVariables false
set_option maxRecDepth 100000
set_option maxHeartbeats 8000000
namespace Go.Proofs.YtldjgpnbkbmgoaaGreatDoor
open Go.RowKit Go.Lib
attribute [local go_sem ↓] load_req stop_req
theorem rmay_1 (conn : Int) (bs : List UInt8) (draw : Nat) (n : Int) (q : Req) (A : Option Addr) (cap : Nat) (hq : q.fits) (hib : q.ib) (w : World) : Calls Tryz.prog 27 #[.agg (hiA ⟨⟨1, conn, bs, draw, n, q⟩, A, cap⟩)] w (BPost w (itOk ⟨1, conn, bs, draw, n, q⟩)) := by
  have h1' := HBx.new 75 w ⟨⟨1, conn, bs, draw, n, q⟩, A, cap⟩
  obtain ⟨w1, hst1⟩ : ∃ w1, w.alloc (.cells (hiA ⟨⟨1, conn, bs, draw, n, q⟩, A, cap⟩) 75) = w1 := ⟨_, rfl⟩
  rw [hst1] at h1'
  have H1 := Lib.hid h1'
  have HQ1 := Lib.hid h1'.q
  have HE := Lib.hid (eqReq q (zeroR 0))
  have HR := Lib.hid (fun w => rbytes_ok q w hq hib)
  have ba := h1'.b0
  have fa0 := h1'.kind
  have fa1 := h1'.conn
  have fa2 := h1'.bs
  have fa3 := h1'.draw
  have fa4 := h1'.n
  simp only at fa0 fa1 fa2 fa3 fa4
  clear h1' ba hq hib
  go_enter Tryz.func27, Tryz.ntmps27
  go_upto_region 2 with (refine load_arr rfl 60 (.tmp 7) rfl w.heap.size 5 rfl (rqC q) _ HQ1.out Tryz.underlying60 rfl (rq_size _) ?_)
  go_cut [4] (fun t wx => t = .bool (thB conn) ∧ wx = w1)
  case first =>
    by_cases h0 : 0 ≤ conn
    all_goals
      go_wp2_with fail
      go_meet
      exact ⟨by simp [thB, h0] <;> omega, rfl⟩
  case rest =>
  obtain ⟨rfl, rfl⟩ := hcut
  have hbq : reqEq q (zeroR 0) = bareB q := rfl
  rw [hbq]
  clear hbq
  cases e0 : thB conn
  · have HIT := Lib.hid (show itOk ⟨1, conn, bs, draw, n, q⟩ = false by simp [itOk, tickB, e0])
    clear e0
    go_wp2_with fail
    go_ret
    exact ⟨by rw [HIT.out]; try rfl, H1.out.bel⟩
  · by_cases e1 : bs.length ≤ 500
    · have k1 : (bs.length : Int) ≤ 500 := by omega
      by_cases e2 : draw = 0
      · have k2 : ((draw : Int) == 0) = true := by simp [e2]
        by_cases e3 : n = 0
        · have k3 : (n == 0) = true := by simp [e3]
          cases e4 : bareB q
          · have HIT := Lib.hid (show itOk ⟨1, conn, bs, draw, n, q⟩ = false by simp [itOk, tickB, e0, e1, e2, e3, e4])
            clear e0
            clear e2
            clear e3
            clear e4
            go_wp2_with fail
            go_ret
            exact ⟨by rw [HIT.out]; try rfl, H1.out.bel⟩
          · have HIT := Lib.hid (show itOk ⟨1, conn, bs, draw, n, q⟩ = true by simp [itOk, tickB, e0, e1, e2, e3, e4])
            clear e0
            clear e2
            clear e3
            clear e4
            go_wp2_with fail
            go_ret
            exact ⟨by rw [HIT.out]; try rfl, H1.out.bel⟩
        · have k3 : (n == 0) = false := by simpa using e3
          have HIT := Lib.hid (show itOk ⟨1, conn, bs, draw, n, q⟩ = false by simp [itOk, tickB, e0, e1, e2, e3])
          clear e0
          clear e2
          clear e3
          go_wp2_with fail
          go_ret
          exact ⟨by rw [HIT.out]; try rfl, H1.out.bel⟩
      · have k2 : ((draw : Int) == 0) = false := by simpa using e2
        have HIT := Lib.hid (show itOk ⟨1, conn, bs, draw, n, q⟩ = false by simp [itOk, tickB, e0, e1, e2])
        clear e0
        clear e2
        go_wp2_with fail
        go_ret
        exact ⟨by rw [HIT.out]; try rfl, H1.out.bel⟩
    · have k1 : ¬ (bs.length : Int) ≤ 500 := by omega
      have HIT := Lib.hid (show itOk ⟨1, conn, bs, draw, n, q⟩ = false by simp [itOk, tickB, e0, e1])
      clear e0
      go_wp2_with fail
      go_ret
      exact ⟨by rw [HIT.out]; try rfl, H1.out.bel⟩
theorem rmay_2 (conn : Int) (bs : List UInt8) (draw : Nat) (n : Int) (q : Req) (A : Option Addr) (cap : Nat) (hq : q.fits) (hib : q.ib) (w : World) : Calls Tryz.prog 27 #[.agg (hiA ⟨⟨2, conn, bs, draw, n, q⟩, A, cap⟩)] w (BPost w (itOk ⟨2, conn, bs, draw, n, q⟩)) := by
  have h1' := HBx.new 75 w ⟨⟨2, conn, bs, draw, n, q⟩, A, cap⟩
  obtain ⟨w1, hst1⟩ : ∃ w1, w.alloc (.cells (hiA ⟨⟨2, conn, bs, draw, n, q⟩, A, cap⟩) 75) = w1 := ⟨_, rfl⟩
  rw [hst1] at h1'
  have H1 := Lib.hid h1'
  have HQ1 := Lib.hid h1'.q
  have HE := Lib.hid (eqReq q (zeroR 0))
  have HR := Lib.hid (fun w => rbytes_ok q w hq hib)
  have ba := h1'.b0
  have fa0 := h1'.kind
  have fa1 := h1'.conn
  have fa2 := h1'.bs
  have fa3 := h1'.draw
  have fa4 := h1'.n
  simp only at fa0 fa1 fa2 fa3 fa4
  clear h1' ba hq hib
  go_enter Tryz.func27, Tryz.ntmps27
  go_upto_region 2 with (refine load_arr rfl 60 (.tmp 7) rfl w.heap.size 5 rfl (rqC q) _ HQ1.out Tryz.underlying60 rfl (rq_size _) ?_)
  go_cut [4] (fun t wx => t = .bool (thB conn) ∧ wx = w1)
  case first =>
    by_cases h0 : 0 ≤ conn
    all_goals
      go_wp2_with fail
      go_meet
      exact ⟨by simp [thB, h0] <;> omega, rfl⟩
  case rest =>
  obtain ⟨rfl, rfl⟩ := hcut
  have hbq : reqEq q (zeroR 0) = bareB q := rfl
  rw [hbq]
  clear hbq
  cases e0 : thB conn
  · have HIT := Lib.hid (show itOk ⟨2, conn, bs, draw, n, q⟩ = false by simp [itOk, tickB, e0])
    clear e0
    go_wp2_with fail
    go_ret
    exact ⟨by rw [HIT.out]; try rfl, H1.out.bel⟩
  · by_cases e1 : bs.length = 0
    · have k1 : ((bs.length : Int) == 0) = true := by simp [e1]
      by_cases e2 : n = 0
      · have k2 : (n == 0) = true := by simp [e2]
        cases e3 : bareB q
        · have HIT := Lib.hid (show itOk ⟨2, conn, bs, draw, n, q⟩ = false by simp [itOk, tickB, e0, e1, e2, e3])
          clear e0
          clear e1
          clear e2
          clear e3
          go_wp2_with fail
          go_ret
          exact ⟨by rw [HIT.out]; try rfl, H1.out.bel⟩
        · have HIT := Lib.hid (show itOk ⟨2, conn, bs, draw, n, q⟩ = true by simp [itOk, tickB, e0, e1, e2, e3])
          clear e0
          clear e1
          clear e2
          clear e3
          go_wp2_with fail
          go_ret
          exact ⟨by rw [HIT.out]; try rfl, H1.out.bel⟩
      · have k2 : (n == 0) = false := by simpa using e2
        have HIT := Lib.hid (show itOk ⟨2, conn, bs, draw, n, q⟩ = false by simp [itOk, tickB, e0, e1, e2])
        clear e0
        clear e1
        clear e2
        go_wp2_with fail
        go_ret
        exact ⟨by rw [HIT.out]; try rfl, H1.out.bel⟩
    · have k1 : ((bs.length : Int) == 0) = false := by simpa using e1
      have HIT := Lib.hid (show itOk ⟨2, conn, bs, draw, n, q⟩ = false by simp [itOk, tickB, e0, e1])
      clear e0
      clear e1
      go_wp2_with fail
      go_ret
      exact ⟨by rw [HIT.out]; try rfl, H1.out.bel⟩
theorem rmay_3 (conn : Int) (bs : List UInt8) (draw : Nat) (n : Int) (q : Req) (A : Option Addr) (cap : Nat) (hq : q.fits) (hib : q.ib) (w : World) : Calls Tryz.prog 27 #[.agg (hiA ⟨⟨3, conn, bs, draw, n, q⟩, A, cap⟩)] w (BPost w (itOk ⟨3, conn, bs, draw, n, q⟩)) := by
  have h1' := HBx.new 75 w ⟨⟨3, conn, bs, draw, n, q⟩, A, cap⟩
  obtain ⟨w1, hst1⟩ : ∃ w1, w.alloc (.cells (hiA ⟨⟨3, conn, bs, draw, n, q⟩, A, cap⟩) 75) = w1 := ⟨_, rfl⟩
  rw [hst1] at h1'
  have H1 := Lib.hid h1'
  have HQ1 := Lib.hid h1'.q
  have HE := Lib.hid (eqReq q (zeroR 0))
  have HR := Lib.hid (fun w => rbytes_ok q w hq hib)
  have ba := h1'.b0
  have fa0 := h1'.kind
  have fa1 := h1'.conn
  have fa2 := h1'.bs
  have fa3 := h1'.draw
  have fa4 := h1'.n
  simp only at fa0 fa1 fa2 fa3 fa4
  clear h1' ba hq hib
  go_enter Tryz.func27, Tryz.ntmps27
  go_upto_region 2 with (refine load_arr rfl 60 (.tmp 7) rfl w.heap.size 5 rfl (rqC q) _ HQ1.out Tryz.underlying60 rfl (rq_size _) ?_)
  go_cut [4] (fun t wx => t = .bool (thB conn) ∧ wx = w1)
  case first =>
    by_cases h0 : 0 ≤ conn
    all_goals
      go_wp2_with fail
      go_meet
      exact ⟨by simp [thB, h0] <;> omega, rfl⟩
  case rest =>
  obtain ⟨rfl, rfl⟩ := hcut
  have hbq : reqEq q (zeroR 0) = bareB q := rfl
  rw [hbq]
  clear hbq
  by_cases e0 : conn = 0
  · have k0 : (conn == 0) = true := by simp [e0]
    by_cases e1 : bs.length = 0
    · have k1 : ((bs.length : Int) == 0) = true := by simp [e1]
      by_cases e2 : draw = 0
      · have k2 : ((draw : Int) == 0) = true := by simp [e2]
        by_cases e3 : 0 ≤ n
        · by_cases e4 : n ≤ 4294967295
          · cases e5 : bareB q
            · have HIT := Lib.hid (show itOk ⟨3, conn, bs, draw, n, q⟩ = false by simp [itOk, tickB, e0, e1, e2, e3, e4, e5])
              clear e0
              clear e1
              clear e2
              clear e5
              go_wp2_with fail
              go_ret
              exact ⟨by rw [HIT.out]; try rfl, H1.out.bel⟩
            · have HIT := Lib.hid (show itOk ⟨3, conn, bs, draw, n, q⟩ = true by simp [itOk, tickB, e0, e1, e2, e3, e4, e5])
              clear e0
              clear e1
              clear e2
              clear e5
              go_wp2_with fail
              go_ret
              exact ⟨by rw [HIT.out]; try rfl, H1.out.bel⟩
          · have HIT := Lib.hid (show itOk ⟨3, conn, bs, draw, n, q⟩ = false by simp [itOk, tickB, e0, e1, e2, e3, e4])
            clear e0
            clear e1
            clear e2
            go_wp2_with fail
            go_ret
            exact ⟨by rw [HIT.out]; try rfl, H1.out.bel⟩
        · have HIT := Lib.hid (show itOk ⟨3, conn, bs, draw, n, q⟩ = false by simp [itOk, tickB, e0, e1, e2, e3])
          clear e0
          clear e1
          clear e2
          go_wp2_with fail
          go_ret
          exact ⟨by rw [HIT.out]; try rfl, H1.out.bel⟩
      · have k2 : ((draw : Int) == 0) = false := by simpa using e2
        have HIT := Lib.hid (show itOk ⟨3, conn, bs, draw, n, q⟩ = false by simp [itOk, tickB, e0, e1, e2])
        clear e0
        clear e1
        clear e2
        go_wp2_with fail
        go_ret
        exact ⟨by rw [HIT.out]; try rfl, H1.out.bel⟩
    · have k1 : ((bs.length : Int) == 0) = false := by simpa using e1
      have HIT := Lib.hid (show itOk ⟨3, conn, bs, draw, n, q⟩ = false by simp [itOk, tickB, e0, e1])
      clear e0
      clear e1
      go_wp2_with fail
      go_ret
      exact ⟨by rw [HIT.out]; try rfl, H1.out.bel⟩
  · have k0 : (conn == 0) = false := by simpa using e0
    have HIT := Lib.hid (show itOk ⟨3, conn, bs, draw, n, q⟩ = false by simp [itOk, tickB, e0])
    clear e0
    go_wp2_with fail
    go_ret
    exact ⟨by rw [HIT.out]; try rfl, H1.out.bel⟩
theorem rmay_4 (conn : Int) (bs : List UInt8) (draw : Nat) (n : Int) (q : Req) (A : Option Addr) (cap : Nat) (hq : q.fits) (hib : q.ib) (w : World) : Calls Tryz.prog 27 #[.agg (hiA ⟨⟨4, conn, bs, draw, n, q⟩, A, cap⟩)] w (BPost w (itOk ⟨4, conn, bs, draw, n, q⟩)) := by
  have h1' := HBx.new 75 w ⟨⟨4, conn, bs, draw, n, q⟩, A, cap⟩
  obtain ⟨w1, hst1⟩ : ∃ w1, w.alloc (.cells (hiA ⟨⟨4, conn, bs, draw, n, q⟩, A, cap⟩) 75) = w1 := ⟨_, rfl⟩
  rw [hst1] at h1'
  have H1 := Lib.hid h1'
  have HQ1 := Lib.hid h1'.q
  have HE := Lib.hid (eqReq q (zeroR 0))
  have HR := Lib.hid (fun w => rbytes_ok q w hq hib)
  have ba := h1'.b0
  have fa0 := h1'.kind
  have fa1 := h1'.conn
  have fa2 := h1'.bs
  have fa3 := h1'.draw
  have fa4 := h1'.n
  simp only at fa0 fa1 fa2 fa3 fa4
  clear h1' ba hq hib
  go_enter Tryz.func27, Tryz.ntmps27
  go_upto_region 2 with (refine load_arr rfl 60 (.tmp 7) rfl w.heap.size 5 rfl (rqC q) _ HQ1.out Tryz.underlying60 rfl (rq_size _) ?_)
  go_cut [4] (fun t wx => t = .bool (thB conn) ∧ wx = w1)
  case first =>
    by_cases h0 : 0 ≤ conn
    all_goals
      go_wp2_with fail
      go_meet
      exact ⟨by simp [thB, h0] <;> omega, rfl⟩
  case rest =>
  obtain ⟨rfl, rfl⟩ := hcut
  have hbq : reqEq q (zeroR 0) = bareB q := rfl
  rw [hbq]
  clear hbq
  go_wp2_with (refine load_arr rfl 60 (.tmp 91) rfl w.heap.size 5 rfl (rqC q) _ HQ1.out Tryz.underlying60 rfl (rq_size _) ?_)
  refine (HR.out _).mono ?_
  rintro e w2 ⟨vb, lb, rfl, -, -, hb2⟩
  have h2' := H1.out.below hb2
  have H2 := Lib.hid h2'
  have bb := h2'.b0
  have fb0 := h2'.kind
  have fb1 := h2'.conn
  have fb2 := h2'.bs
  have fb3 := h2'.draw
  have fb4 := h2'.n
  simp only at fb0 fb1 fb2 fb3 fb4
  clear h2' bb hb2
  rw [← (enc_rb q).1]
  cases e0 : thB conn
  · have HIT := Lib.hid (show itOk ⟨4, conn, bs, draw, n, q⟩ = false by simp [itOk, tickB, e0])
    clear e0
    go_wp2_with fail
    go_ret
    exact ⟨by rw [HIT.out]; try rfl, H2.out.bel⟩
  · by_cases e1 : bs.length = 0
    · have k1 : ((bs.length : Int) == 0) = true := by simp [e1]
      by_cases e2 : n = 0
      · have k2 : (n == 0) = true := by simp [e2]
        cases e3 : encOk q
        · have HIT := Lib.hid (show itOk ⟨4, conn, bs, draw, n, q⟩ = false by simp [itOk, tickB, e0, e1, e2, e3])
          clear e0
          clear e1
          clear e2
          clear e3
          go_wp2_with fail
          go_ret
          exact ⟨by rw [HIT.out]; try rfl, H2.out.bel⟩
        · have HIT := Lib.hid (show itOk ⟨4, conn, bs, draw, n, q⟩ = true by simp [itOk, tickB, e0, e1, e2, e3])
          clear e0
          clear e1
          clear e2
          clear e3
          go_wp2_with fail
          go_ret
          exact ⟨by rw [HIT.out]; try rfl, H2.out.bel⟩
      · have k2 : (n == 0) = false := by simpa using e2
        have HIT := Lib.hid (show itOk ⟨4, conn, bs, draw, n, q⟩ = false by simp [itOk, tickB, e0, e1, e2])
        clear e0
        clear e1
        clear e2
        go_wp2_with fail
        go_ret
        exact ⟨by rw [HIT.out]; try rfl, H2.out.bel⟩
    · have k1 : ((bs.length : Int) == 0) = false := by simpa using e1
      have HIT := Lib.hid (show itOk ⟨4, conn, bs, draw, n, q⟩ = false by simp [itOk, tickB, e0, e1])
      clear e0
      clear e1
      go_wp2_with fail
      go_ret
      exact ⟨by rw [HIT.out]; try rfl, H2.out.bel⟩
theorem rmay_0 (kind conn : Int) (bs : List UInt8) (draw : Nat) (n : Int) (q : Req) (A : Option Addr) (cap : Nat) (h1 : kind ≠ 1) (h2 : kind ≠ 2) (h3 : kind ≠ 3) (h4 : kind ≠ 4) (hq : q.fits) (hib : q.ib) (w : World) : Calls Tryz.prog 27 #[.agg (hiA ⟨⟨kind, conn, bs, draw, n, q⟩, A, cap⟩)] w (BPost w (itOk ⟨kind, conn, bs, draw, n, q⟩)) := by
  have g1 : (kind == 1) = false := by simpa using h1
  have g2 : (kind == 2) = false := by simpa using h2
  have g3 : (kind == 3) = false := by simpa using h3
  have g4 : (kind == 4) = false := by simpa using h4
  have HIT := Lib.hid (show itOk ⟨kind, conn, bs, draw, n, q⟩ = false by simp [itOk, h1, h2, h3, h4])
  have h1' := HBx.new 75 w ⟨⟨kind, conn, bs, draw, n, q⟩, A, cap⟩
  obtain ⟨w1, hst1⟩ : ∃ w1, w.alloc (.cells (hiA ⟨⟨kind, conn, bs, draw, n, q⟩, A, cap⟩) 75) = w1 := ⟨_, rfl⟩
  rw [hst1] at h1'
  have H1 := Lib.hid h1'
  have HQ1 := Lib.hid h1'.q
  have HE := Lib.hid (eqReq q (zeroR 0))
  have HR := Lib.hid (fun w => rbytes_ok q w hq hib)
  have ba := h1'.b0
  have fa0 := h1'.kind
  have fa1 := h1'.conn
  have fa2 := h1'.bs
  have fa3 := h1'.draw
  have fa4 := h1'.n
  simp only at fa0 fa1 fa2 fa3 fa4
  clear h1' ba hq hib
  go_enter Tryz.func27, Tryz.ntmps27
  go_upto_region 2 with (refine load_arr rfl 60 (.tmp 7) rfl w.heap.size 5 rfl (rqC q) _ HQ1.out Tryz.underlying60 rfl (rq_size _) ?_)
  go_cut [4] (fun t wx => t = .bool (thB conn) ∧ wx = w1)
  case first =>
    by_cases h0 : 0 ≤ conn
    all_goals
      go_wp2_with fail
      go_meet
      exact ⟨by simp [thB, h0] <;> omega, rfl⟩
  case rest =>
  obtain ⟨rfl, rfl⟩ := hcut
  have hbq : reqEq q (zeroR 0) = bareB q := rfl
  rw [hbq]
  clear hbq
  go_wp2_with (refine load_arr rfl 60 (.tmp 91) rfl w.heap.size 5 rfl (rqC q) _ HQ1.out Tryz.underlying60 rfl (rq_size _) ?_)
  refine (HR.out _).mono ?_
  rintro e w2 ⟨vb, lb, rfl, -, -, hb2⟩
  have h2' := H1.out.below hb2
  have H2 := Lib.hid h2'
  have bb := h2'.b0
  have fb0 := h2'.kind
  have fb1 := h2'.conn
  have fb2 := h2'.bs
  have fb3 := h2'.draw
  have fb4 := h2'.n
  simp only at fb0 fb1 fb2 fb3 fb4
  clear h2' bb hb2
  go_wp2_with fail
  go_ret
  exact ⟨by rw [HIT.out]; try rfl, H2.out.bel⟩
theorem rmay_ok (r : HRw) (w : World) (hq : r.x.q.fits) (hib : r.x.q.ib) : Calls Tryz.prog 27 #[.agg (hiA r)] w (BPost w (itOk r.x)) := by
  obtain ⟨⟨kind, conn, bs, draw, n, q⟩, A, cap⟩ := r
  by_cases h1 : kind = 1
  · subst h1; exact rmay_1 conn bs draw n q A cap hq hib w
  · by_cases h2 : kind = 2
    · subst h2; exact rmay_2 conn bs draw n q A cap hq hib w
    · by_cases h3 : kind = 3
      · subst h3; exact rmay_3 conn bs draw n q A cap hq hib w
      · by_cases h4 : kind = 4
        · subst h4; exact rmay_4 conn bs draw n q A cap hq hib w
        · exact rmay_0 kind conn bs draw n q A cap h1 h2 h3 h4 hq hib w
end Go.Proofs.YtldjgpnbkbmgoaaGreatDoor

