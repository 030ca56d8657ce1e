/-
  What items may be: the program's there, bare and right. Conditions: as each states.
-/
import Derived.Test.YtldjgpnbkbmgoaaGreatDoorPP2
import Derived.Test.YtldjgpnbkbmgoaaGreatDoorKnown
set_option linter.unusedSimpArgs false
set_option linter.unusedVariables false
set_option maxRecDepth 100000
set_option maxHeartbeats 8000000
namespace Go.Proofs.YtldjgpnbkbmgoaaGreatDoor
open Go.RowKit Go.Lib
attribute [local go_sem ↓] load_req stop_req
theorem load_bx {P : Program} {ops : Array Oper} {rest : List Oper} {o : Oper} {a : Act} {w : World} {Q : Exit → Act → World → Prop} (hw : Region.wanted o (yielded ops a.tmps) = true) (ty : TypeId) (x : Operand) (ho : o.op = .load ty x)
    (g : Nat) (hx : a.eval x = .pointer (some ⟨g, 0, none⟩)) (t : TypeId) (cs : Array Value) (d : TypeDesc) (hg : Blk w g t cs)
    (hu : P.underlying ty = some d) (hd : (match d with | .struct _ | .array _ _ => true | _ => false) = true) (hi : (P.info? ty).map (·.size) = some cs.size)
    (h : wpList P ops Q rest (a.put o.dst (.agg cs)) w) : wpList P ops Q (o :: rest) a w :=
  load_rowG hw ty x ho g hx t cs (0, 0) d hg hu hd hi h
theorem load_arrG {P : Program} {ops : Array Oper} {rest : List Oper} {op : Oper} {a : Act} {w : World} {Q : Exit → Act → World → Prop} (hw : Region.wanted op (yielded ops a.tmps) = true) (ty : TypeId) (x : Operand) (ho : op.op = .load ty x)
    (b o : Nat) (hx : a.eval x = .pointer (some ⟨b, o, none⟩)) (cs : Array Value) (d : TypeDesc) (hc : Lay w b o cs.toList)
    (hu : P.underlying ty = some d) (hd : d.isRow = true) (hi : (P.info? ty).map (·.size) = some cs.size)
    (h : wpList P ops Q rest (a.put op.dst (.agg cs)) w) : wpList P ops Q (op :: rest) a w :=
  wpList_step fun K hK => by
    rw [if_pos hw]
    exact wp_load_mid ty x ho b o hx cs.toList d hc hu hd (by simpa using hi) (hK _ _ (by simpa using h))
theorem hthere_ok (r : HRw) (w : World) : Calls Tryz.prog 46 #[.agg (hiA r)] w (BPost w (thB r.x.conn)) := by
  have h1 := HBx.new 62 w r
  obtain ⟨w1, hst1⟩ : ∃ w1, w.alloc (.cells (hiA r) 62) = w1 := ⟨_, rfl⟩
  rw [hst1] at h1
  have H1 := Lib.hid h1
  have f1 := h1.conn
  obtain ⟨⟨kind, conn, bs, draw, n, q⟩, A, cap⟩ := r
  simp only at f1
  clear h1
  unfold thB
  by_cases h0 : 0 ≤ conn
  all_goals
    go_enter Tryz.func46, Tryz.ntmps46
    go_wp2
    go_ret
    exact ⟨by simp [h0] <;> omega, H1.out.bel⟩
theorem hbare_ok (r : HRw) (w : World) : Calls Tryz.prog 47 #[.agg (hiA r)] w (BPost w (bareB r.x.q)) := by
  have h1 := HBx.new 62 w r
  obtain ⟨w1, hst1⟩ : ∃ w1, w.alloc (.cells (hiA r) 62) = w1 := ⟨_, rfl⟩
  rw [hst1] at h1
  have H1 := Lib.hid h1
  have HQ := Lib.hid h1.q
  have HE := Lib.hid (eqReq r.x.q (zeroR 0))
  clear h1
  go_enter Tryz.func47, Tryz.ntmps47
  go_wp2_with (refine load_arr rfl 60 (.tmp 3) rfl w.heap.size 5 rfl (rqC r.x.q) _ HQ.out Tryz.underlying60 rfl (rq_size _) ?_)
  go_ret
  exact ⟨rfl, H1.out.bel⟩
theorem hright_1 (conn : Int) (bs : List UInt8) (draw : Nat) (n : Int) (q : Req) (A : Option Addr) (cap : Nat) (hq : q.fits) (w : World) : Calls Tryz.prog 28 #[.agg (hiA ⟨⟨1, conn, bs, draw, n, q⟩, A, cap⟩)] w (BPost w (itOk ⟨1, conn, bs, draw, n, q⟩)) := by
  have h1' := HBx.new 62 w ⟨⟨1, conn, bs, draw, n, q⟩, A, cap⟩
  obtain ⟨w1, hst1⟩ : ∃ w1, w.alloc (.cells (hiA ⟨⟨1, conn, bs, draw, n, q⟩, A, cap⟩) 62) = w1 := ⟨_, rfl⟩
  rw [hst1] at h1'
  have H1 := Lib.hid h1'
  have ba := h1'.b0
  have fa0 := h1'.kind
  have fa1 := h1'.conn
  have fa2 := h1'.bs
  have fa3 := h1'.draw
  have fa4 := h1'.n
  simp only at fa0 fa1 fa2 fa3 fa4
  clear h1'
  cases e0 : thB conn
  · have HIT := Lib.hid (show itOk ⟨1, conn, bs, draw, n, q⟩ = false by simp [itOk, tickB, e0])
    have ht := fun w => hthere_ok ⟨⟨1, conn, bs, draw, n, q⟩, A, cap⟩ w
    rw [show thB (HIt.conn (HRw.x ⟨⟨1, conn, bs, draw, n, q⟩, A, cap⟩)) = false from e0] at ht
    have HT := Lib.hid ht
    clear ht
    clear e0
    go_enter Tryz.func28, Tryz.ntmps28
    go_wp2_with (first
      | (refine load_bx rfl 62 (.tmp 1) rfl w.heap.size rfl 62 (hiA ⟨⟨1, conn, bs, draw, n, q⟩, A, cap⟩) _ (by assumption) Tryz.underlying62 rfl (hit_size _) ?_))
    refine (HT.out _).mono ?_
    rintro e wt ⟨rfl, hbt⟩
    have ht' := H1.out.below hbt
    have Ht := ht'
    have bt := ht'.b0
    have ft0 := ht'.kind
    have ft1 := ht'.conn
    have ft2 := ht'.bs
    have ft3 := ht'.draw
    have ft4 := ht'.n
    simp only at ft0 ft1 ft2 ft3 ft4
    clear hbt
    go_wp2_with (first
      | (refine load_bx rfl 62 (.tmp 1) rfl w.heap.size rfl 62 (hiA ⟨⟨1, conn, bs, draw, n, q⟩, A, cap⟩) _ (by assumption) Tryz.underlying62 rfl (hit_size _) ?_))
    go_ret
    exact ⟨by rw [HIT.out]; try rfl, Ht.bel⟩
  · by_cases e1 : bs.length ≤ 500
    · have k1 : (bs.length : Int) ≤ 500 := by omega
      by_cases e2 : draw = 0
      · have k2 : ((draw : Int) == 0) = true := by simp [e2]
        by_cases e3 : n = 0
        · have k3 : (n == 0) = true := by simp [e3]
          cases e4 : bareB q
          · have HIT := Lib.hid (show itOk ⟨1, conn, bs, draw, n, q⟩ = false by simp [itOk, tickB, e0, e1, e2, e3, e4])
            have ht := fun w => hthere_ok ⟨⟨1, conn, bs, draw, n, q⟩, A, cap⟩ w
            rw [show thB (HIt.conn (HRw.x ⟨⟨1, conn, bs, draw, n, q⟩, A, cap⟩)) = true from e0] at ht
            have HT := Lib.hid ht
            clear ht
            have hb := fun w => hbare_ok ⟨⟨1, conn, bs, draw, n, q⟩, A, cap⟩ w
            rw [show bareB (HIt.q (HRw.x ⟨⟨1, conn, bs, draw, n, q⟩, A, cap⟩)) = false from e4] at hb
            have HB := Lib.hid hb
            clear hb
            clear e0
            clear e2
            clear e3
            clear e4
            go_enter Tryz.func28, Tryz.ntmps28
            go_wp2_with (first
              | (refine load_bx rfl 62 (.tmp 1) rfl w.heap.size rfl 62 (hiA ⟨⟨1, conn, bs, draw, n, q⟩, A, cap⟩) _ (by assumption) Tryz.underlying62 rfl (hit_size _) ?_))
            refine (HT.out _).mono ?_
            rintro e wt ⟨rfl, hbt⟩
            have ht' := H1.out.below hbt
            have Ht := ht'
            have bt := ht'.b0
            have ft0 := ht'.kind
            have ft1 := ht'.conn
            have ft2 := ht'.bs
            have ft3 := ht'.draw
            have ft4 := ht'.n
            simp only at ft0 ft1 ft2 ft3 ft4
            clear hbt
            go_wp2_with (first
              | (refine load_bx rfl 62 (.tmp 1) rfl w.heap.size rfl 62 (hiA ⟨⟨1, conn, bs, draw, n, q⟩, A, cap⟩) _ (by assumption) Tryz.underlying62 rfl (hit_size _) ?_))
            refine (HB.out _).mono ?_
            rintro e wb ⟨rfl, hbb⟩
            have hb' := Ht.below hbb
            have Hb := hb'
            have bb := hb'.b0
            have fb0 := hb'.kind
            have fb1 := hb'.conn
            have fb2 := hb'.bs
            have fb3 := hb'.draw
            have fb4 := hb'.n
            simp only at fb0 fb1 fb2 fb3 fb4
            clear hbb
            go_wp2_with (first
              | (refine load_bx rfl 62 (.tmp 1) rfl w.heap.size rfl 62 (hiA ⟨⟨1, conn, bs, draw, n, q⟩, A, cap⟩) _ (by assumption) Tryz.underlying62 rfl (hit_size _) ?_))
            go_ret
            exact ⟨by rw [HIT.out]; try rfl, Hb.bel⟩
          · have HIT := Lib.hid (show itOk ⟨1, conn, bs, draw, n, q⟩ = true by simp [itOk, tickB, e0, e1, e2, e3, e4])
            have ht := fun w => hthere_ok ⟨⟨1, conn, bs, draw, n, q⟩, A, cap⟩ w
            rw [show thB (HIt.conn (HRw.x ⟨⟨1, conn, bs, draw, n, q⟩, A, cap⟩)) = true from e0] at ht
            have HT := Lib.hid ht
            clear ht
            have hb := fun w => hbare_ok ⟨⟨1, conn, bs, draw, n, q⟩, A, cap⟩ w
            rw [show bareB (HIt.q (HRw.x ⟨⟨1, conn, bs, draw, n, q⟩, A, cap⟩)) = true from e4] at hb
            have HB := Lib.hid hb
            clear hb
            clear e0
            clear e2
            clear e3
            clear e4
            go_enter Tryz.func28, Tryz.ntmps28
            go_wp2_with (first
              | (refine load_bx rfl 62 (.tmp 1) rfl w.heap.size rfl 62 (hiA ⟨⟨1, conn, bs, draw, n, q⟩, A, cap⟩) _ (by assumption) Tryz.underlying62 rfl (hit_size _) ?_))
            refine (HT.out _).mono ?_
            rintro e wt ⟨rfl, hbt⟩
            have ht' := H1.out.below hbt
            have Ht := ht'
            have bt := ht'.b0
            have ft0 := ht'.kind
            have ft1 := ht'.conn
            have ft2 := ht'.bs
            have ft3 := ht'.draw
            have ft4 := ht'.n
            simp only at ft0 ft1 ft2 ft3 ft4
            clear hbt
            go_wp2_with (first
              | (refine load_bx rfl 62 (.tmp 1) rfl w.heap.size rfl 62 (hiA ⟨⟨1, conn, bs, draw, n, q⟩, A, cap⟩) _ (by assumption) Tryz.underlying62 rfl (hit_size _) ?_))
            refine (HB.out _).mono ?_
            rintro e wb ⟨rfl, hbb⟩
            have hb' := Ht.below hbb
            have Hb := hb'
            have bb := hb'.b0
            have fb0 := hb'.kind
            have fb1 := hb'.conn
            have fb2 := hb'.bs
            have fb3 := hb'.draw
            have fb4 := hb'.n
            simp only at fb0 fb1 fb2 fb3 fb4
            clear hbb
            go_wp2_with (first
              | (refine load_bx rfl 62 (.tmp 1) rfl w.heap.size rfl 62 (hiA ⟨⟨1, conn, bs, draw, n, q⟩, A, cap⟩) _ (by assumption) Tryz.underlying62 rfl (hit_size _) ?_))
            go_ret
            exact ⟨by rw [HIT.out]; try rfl, Hb.bel⟩
        · have k3 : (n == 0) = false := by simpa using e3
          have HIT := Lib.hid (show itOk ⟨1, conn, bs, draw, n, q⟩ = false by simp [itOk, tickB, e0, e1, e2, e3])
          have ht := fun w => hthere_ok ⟨⟨1, conn, bs, draw, n, q⟩, A, cap⟩ w
          rw [show thB (HIt.conn (HRw.x ⟨⟨1, conn, bs, draw, n, q⟩, A, cap⟩)) = true from e0] at ht
          have HT := Lib.hid ht
          clear ht
          clear e0
          clear e2
          clear e3
          go_enter Tryz.func28, Tryz.ntmps28
          go_wp2_with (first
            | (refine load_bx rfl 62 (.tmp 1) rfl w.heap.size rfl 62 (hiA ⟨⟨1, conn, bs, draw, n, q⟩, A, cap⟩) _ (by assumption) Tryz.underlying62 rfl (hit_size _) ?_))
          refine (HT.out _).mono ?_
          rintro e wt ⟨rfl, hbt⟩
          have ht' := H1.out.below hbt
          have Ht := ht'
          have bt := ht'.b0
          have ft0 := ht'.kind
          have ft1 := ht'.conn
          have ft2 := ht'.bs
          have ft3 := ht'.draw
          have ft4 := ht'.n
          simp only at ft0 ft1 ft2 ft3 ft4
          clear hbt
          go_wp2_with (first
            | (refine load_bx rfl 62 (.tmp 1) rfl w.heap.size rfl 62 (hiA ⟨⟨1, conn, bs, draw, n, q⟩, A, cap⟩) _ (by assumption) Tryz.underlying62 rfl (hit_size _) ?_))
          go_ret
          exact ⟨by rw [HIT.out]; try rfl, Ht.bel⟩
      · have k2 : ((draw : Int) == 0) = false := by simpa using e2
        have HIT := Lib.hid (show itOk ⟨1, conn, bs, draw, n, q⟩ = false by simp [itOk, tickB, e0, e1, e2])
        have ht := fun w => hthere_ok ⟨⟨1, conn, bs, draw, n, q⟩, A, cap⟩ w
        rw [show thB (HIt.conn (HRw.x ⟨⟨1, conn, bs, draw, n, q⟩, A, cap⟩)) = true from e0] at ht
        have HT := Lib.hid ht
        clear ht
        clear e0
        clear e2
        go_enter Tryz.func28, Tryz.ntmps28
        go_wp2_with (first
          | (refine load_bx rfl 62 (.tmp 1) rfl w.heap.size rfl 62 (hiA ⟨⟨1, conn, bs, draw, n, q⟩, A, cap⟩) _ (by assumption) Tryz.underlying62 rfl (hit_size _) ?_))
        refine (HT.out _).mono ?_
        rintro e wt ⟨rfl, hbt⟩
        have ht' := H1.out.below hbt
        have Ht := ht'
        have bt := ht'.b0
        have ft0 := ht'.kind
        have ft1 := ht'.conn
        have ft2 := ht'.bs
        have ft3 := ht'.draw
        have ft4 := ht'.n
        simp only at ft0 ft1 ft2 ft3 ft4
        clear hbt
        go_wp2_with (first
          | (refine load_bx rfl 62 (.tmp 1) rfl w.heap.size rfl 62 (hiA ⟨⟨1, conn, bs, draw, n, q⟩, A, cap⟩) _ (by assumption) Tryz.underlying62 rfl (hit_size _) ?_))
        go_ret
        exact ⟨by rw [HIT.out]; try rfl, Ht.bel⟩
    · have k1 : ¬ (bs.length : Int) ≤ 500 := by omega
      have HIT := Lib.hid (show itOk ⟨1, conn, bs, draw, n, q⟩ = false by simp [itOk, tickB, e0, e1])
      have ht := fun w => hthere_ok ⟨⟨1, conn, bs, draw, n, q⟩, A, cap⟩ w
      rw [show thB (HIt.conn (HRw.x ⟨⟨1, conn, bs, draw, n, q⟩, A, cap⟩)) = true from e0] at ht
      have HT := Lib.hid ht
      clear ht
      clear e0
      go_enter Tryz.func28, Tryz.ntmps28
      go_wp2_with (first
        | (refine load_bx rfl 62 (.tmp 1) rfl w.heap.size rfl 62 (hiA ⟨⟨1, conn, bs, draw, n, q⟩, A, cap⟩) _ (by assumption) Tryz.underlying62 rfl (hit_size _) ?_))
      refine (HT.out _).mono ?_
      rintro e wt ⟨rfl, hbt⟩
      have ht' := H1.out.below hbt
      have Ht := ht'
      have bt := ht'.b0
      have ft0 := ht'.kind
      have ft1 := ht'.conn
      have ft2 := ht'.bs
      have ft3 := ht'.draw
      have ft4 := ht'.n
      simp only at ft0 ft1 ft2 ft3 ft4
      clear hbt
      go_wp2_with (first
        | (refine load_bx rfl 62 (.tmp 1) rfl w.heap.size rfl 62 (hiA ⟨⟨1, conn, bs, draw, n, q⟩, A, cap⟩) _ (by assumption) Tryz.underlying62 rfl (hit_size _) ?_))
      go_ret
      exact ⟨by rw [HIT.out]; try rfl, Ht.bel⟩
theorem hright_2 (conn : Int) (bs : List UInt8) (draw : Nat) (n : Int) (q : Req) (A : Option Addr) (cap : Nat) (hq : q.fits) (w : World) : Calls Tryz.prog 28 #[.agg (hiA ⟨⟨2, conn, bs, draw, n, q⟩, A, cap⟩)] w (BPost w (itOk ⟨2, conn, bs, draw, n, q⟩)) := by
  have h1' := HBx.new 62 w ⟨⟨2, conn, bs, draw, n, q⟩, A, cap⟩
  obtain ⟨w1, hst1⟩ : ∃ w1, w.alloc (.cells (hiA ⟨⟨2, conn, bs, draw, n, q⟩, A, cap⟩) 62) = w1 := ⟨_, rfl⟩
  rw [hst1] at h1'
  have H1 := Lib.hid h1'
  have ba := h1'.b0
  have fa0 := h1'.kind
  have fa1 := h1'.conn
  have fa2 := h1'.bs
  have fa3 := h1'.draw
  have fa4 := h1'.n
  simp only at fa0 fa1 fa2 fa3 fa4
  clear h1'
  cases e0 : thB conn
  · have HIT := Lib.hid (show itOk ⟨2, conn, bs, draw, n, q⟩ = false by simp [itOk, tickB, e0])
    have ht := fun w => hthere_ok ⟨⟨2, conn, bs, draw, n, q⟩, A, cap⟩ w
    rw [show thB (HIt.conn (HRw.x ⟨⟨2, conn, bs, draw, n, q⟩, A, cap⟩)) = false from e0] at ht
    have HT := Lib.hid ht
    clear ht
    clear e0
    go_enter Tryz.func28, Tryz.ntmps28
    go_wp2_with (first
      | (refine load_bx rfl 62 (.tmp 1) rfl w.heap.size rfl 62 (hiA ⟨⟨2, conn, bs, draw, n, q⟩, A, cap⟩) _ (by assumption) Tryz.underlying62 rfl (hit_size _) ?_))
    refine (HT.out _).mono ?_
    rintro e wt ⟨rfl, hbt⟩
    have ht' := H1.out.below hbt
    have Ht := ht'
    have bt := ht'.b0
    have ft0 := ht'.kind
    have ft1 := ht'.conn
    have ft2 := ht'.bs
    have ft3 := ht'.draw
    have ft4 := ht'.n
    simp only at ft0 ft1 ft2 ft3 ft4
    clear hbt
    go_wp2_with (first
      | (refine load_bx rfl 62 (.tmp 1) rfl w.heap.size rfl 62 (hiA ⟨⟨2, conn, bs, draw, n, q⟩, A, cap⟩) _ (by assumption) Tryz.underlying62 rfl (hit_size _) ?_))
    go_ret
    exact ⟨by rw [HIT.out]; try rfl, Ht.bel⟩
  · by_cases e1 : bs.length = 0
    · have k1 : ((bs.length : Int) == 0) = true := by simp [e1]
      by_cases e2 : n = 0
      · have k2 : (n == 0) = true := by simp [e2]
        cases e3 : bareB q
        · have HIT := Lib.hid (show itOk ⟨2, conn, bs, draw, n, q⟩ = false by simp [itOk, tickB, e0, e1, e2, e3])
          have ht := fun w => hthere_ok ⟨⟨2, conn, bs, draw, n, q⟩, A, cap⟩ w
          rw [show thB (HIt.conn (HRw.x ⟨⟨2, conn, bs, draw, n, q⟩, A, cap⟩)) = true from e0] at ht
          have HT := Lib.hid ht
          clear ht
          have hb := fun w => hbare_ok ⟨⟨2, conn, bs, draw, n, q⟩, A, cap⟩ w
          rw [show bareB (HIt.q (HRw.x ⟨⟨2, conn, bs, draw, n, q⟩, A, cap⟩)) = false from e3] at hb
          have HB := Lib.hid hb
          clear hb
          clear e0
          clear e1
          clear e2
          clear e3
          go_enter Tryz.func28, Tryz.ntmps28
          go_wp2_with (first
            | (refine load_bx rfl 62 (.tmp 1) rfl w.heap.size rfl 62 (hiA ⟨⟨2, conn, bs, draw, n, q⟩, A, cap⟩) _ (by assumption) Tryz.underlying62 rfl (hit_size _) ?_))
          refine (HT.out _).mono ?_
          rintro e wt ⟨rfl, hbt⟩
          have ht' := H1.out.below hbt
          have Ht := ht'
          have bt := ht'.b0
          have ft0 := ht'.kind
          have ft1 := ht'.conn
          have ft2 := ht'.bs
          have ft3 := ht'.draw
          have ft4 := ht'.n
          simp only at ft0 ft1 ft2 ft3 ft4
          clear hbt
          go_wp2_with (first
            | (refine load_bx rfl 62 (.tmp 1) rfl w.heap.size rfl 62 (hiA ⟨⟨2, conn, bs, draw, n, q⟩, A, cap⟩) _ (by assumption) Tryz.underlying62 rfl (hit_size _) ?_))
          refine (HB.out _).mono ?_
          rintro e wb ⟨rfl, hbb⟩
          have hb' := Ht.below hbb
          have Hb := hb'
          have bb := hb'.b0
          have fb0 := hb'.kind
          have fb1 := hb'.conn
          have fb2 := hb'.bs
          have fb3 := hb'.draw
          have fb4 := hb'.n
          simp only at fb0 fb1 fb2 fb3 fb4
          clear hbb
          go_wp2_with (first
            | (refine load_bx rfl 62 (.tmp 1) rfl w.heap.size rfl 62 (hiA ⟨⟨2, conn, bs, draw, n, q⟩, A, cap⟩) _ (by assumption) Tryz.underlying62 rfl (hit_size _) ?_))
          go_ret
          exact ⟨by rw [HIT.out]; try rfl, Hb.bel⟩
        · have HIT := Lib.hid (show itOk ⟨2, conn, bs, draw, n, q⟩ = true by simp [itOk, tickB, e0, e1, e2, e3])
          have ht := fun w => hthere_ok ⟨⟨2, conn, bs, draw, n, q⟩, A, cap⟩ w
          rw [show thB (HIt.conn (HRw.x ⟨⟨2, conn, bs, draw, n, q⟩, A, cap⟩)) = true from e0] at ht
          have HT := Lib.hid ht
          clear ht
          have hb := fun w => hbare_ok ⟨⟨2, conn, bs, draw, n, q⟩, A, cap⟩ w
          rw [show bareB (HIt.q (HRw.x ⟨⟨2, conn, bs, draw, n, q⟩, A, cap⟩)) = true from e3] at hb
          have HB := Lib.hid hb
          clear hb
          clear e0
          clear e1
          clear e2
          clear e3
          go_enter Tryz.func28, Tryz.ntmps28
          go_wp2_with (first
            | (refine load_bx rfl 62 (.tmp 1) rfl w.heap.size rfl 62 (hiA ⟨⟨2, conn, bs, draw, n, q⟩, A, cap⟩) _ (by assumption) Tryz.underlying62 rfl (hit_size _) ?_))
          refine (HT.out _).mono ?_
          rintro e wt ⟨rfl, hbt⟩
          have ht' := H1.out.below hbt
          have Ht := ht'
          have bt := ht'.b0
          have ft0 := ht'.kind
          have ft1 := ht'.conn
          have ft2 := ht'.bs
          have ft3 := ht'.draw
          have ft4 := ht'.n
          simp only at ft0 ft1 ft2 ft3 ft4
          clear hbt
          go_wp2_with (first
            | (refine load_bx rfl 62 (.tmp 1) rfl w.heap.size rfl 62 (hiA ⟨⟨2, conn, bs, draw, n, q⟩, A, cap⟩) _ (by assumption) Tryz.underlying62 rfl (hit_size _) ?_))
          refine (HB.out _).mono ?_
          rintro e wb ⟨rfl, hbb⟩
          have hb' := Ht.below hbb
          have Hb := hb'
          have bb := hb'.b0
          have fb0 := hb'.kind
          have fb1 := hb'.conn
          have fb2 := hb'.bs
          have fb3 := hb'.draw
          have fb4 := hb'.n
          simp only at fb0 fb1 fb2 fb3 fb4
          clear hbb
          go_wp2_with (first
            | (refine load_bx rfl 62 (.tmp 1) rfl w.heap.size rfl 62 (hiA ⟨⟨2, conn, bs, draw, n, q⟩, A, cap⟩) _ (by assumption) Tryz.underlying62 rfl (hit_size _) ?_))
          go_ret
          exact ⟨by rw [HIT.out]; try rfl, Hb.bel⟩
      · have k2 : (n == 0) = false := by simpa using e2
        have HIT := Lib.hid (show itOk ⟨2, conn, bs, draw, n, q⟩ = false by simp [itOk, tickB, e0, e1, e2])
        have ht := fun w => hthere_ok ⟨⟨2, conn, bs, draw, n, q⟩, A, cap⟩ w
        rw [show thB (HIt.conn (HRw.x ⟨⟨2, conn, bs, draw, n, q⟩, A, cap⟩)) = true from e0] at ht
        have HT := Lib.hid ht
        clear ht
        clear e0
        clear e1
        clear e2
        go_enter Tryz.func28, Tryz.ntmps28
        go_wp2_with (first
          | (refine load_bx rfl 62 (.tmp 1) rfl w.heap.size rfl 62 (hiA ⟨⟨2, conn, bs, draw, n, q⟩, A, cap⟩) _ (by assumption) Tryz.underlying62 rfl (hit_size _) ?_))
        refine (HT.out _).mono ?_
        rintro e wt ⟨rfl, hbt⟩
        have ht' := H1.out.below hbt
        have Ht := ht'
        have bt := ht'.b0
        have ft0 := ht'.kind
        have ft1 := ht'.conn
        have ft2 := ht'.bs
        have ft3 := ht'.draw
        have ft4 := ht'.n
        simp only at ft0 ft1 ft2 ft3 ft4
        clear hbt
        go_wp2_with (first
          | (refine load_bx rfl 62 (.tmp 1) rfl w.heap.size rfl 62 (hiA ⟨⟨2, conn, bs, draw, n, q⟩, A, cap⟩) _ (by assumption) Tryz.underlying62 rfl (hit_size _) ?_))
        go_ret
        exact ⟨by rw [HIT.out]; try rfl, Ht.bel⟩
    · have k1 : ((bs.length : Int) == 0) = false := by simpa using e1
      have HIT := Lib.hid (show itOk ⟨2, conn, bs, draw, n, q⟩ = false by simp [itOk, tickB, e0, e1])
      have ht := fun w => hthere_ok ⟨⟨2, conn, bs, draw, n, q⟩, A, cap⟩ w
      rw [show thB (HIt.conn (HRw.x ⟨⟨2, conn, bs, draw, n, q⟩, A, cap⟩)) = true from e0] at ht
      have HT := Lib.hid ht
      clear ht
      clear e0
      clear e1
      go_enter Tryz.func28, Tryz.ntmps28
      go_wp2_with (first
        | (refine load_bx rfl 62 (.tmp 1) rfl w.heap.size rfl 62 (hiA ⟨⟨2, conn, bs, draw, n, q⟩, A, cap⟩) _ (by assumption) Tryz.underlying62 rfl (hit_size _) ?_))
      refine (HT.out _).mono ?_
      rintro e wt ⟨rfl, hbt⟩
      have ht' := H1.out.below hbt
      have Ht := ht'
      have bt := ht'.b0
      have ft0 := ht'.kind
      have ft1 := ht'.conn
      have ft2 := ht'.bs
      have ft3 := ht'.draw
      have ft4 := ht'.n
      simp only at ft0 ft1 ft2 ft3 ft4
      clear hbt
      go_wp2_with (first
        | (refine load_bx rfl 62 (.tmp 1) rfl w.heap.size rfl 62 (hiA ⟨⟨2, conn, bs, draw, n, q⟩, A, cap⟩) _ (by assumption) Tryz.underlying62 rfl (hit_size _) ?_))
      go_ret
      exact ⟨by rw [HIT.out]; try rfl, Ht.bel⟩
theorem hright_3 (conn : Int) (bs : List UInt8) (draw : Nat) (n : Int) (q : Req) (A : Option Addr) (cap : Nat) (hq : q.fits) (w : World) : Calls Tryz.prog 28 #[.agg (hiA ⟨⟨3, conn, bs, draw, n, q⟩, A, cap⟩)] w (BPost w (itOk ⟨3, conn, bs, draw, n, q⟩)) := by
  have h1' := HBx.new 62 w ⟨⟨3, conn, bs, draw, n, q⟩, A, cap⟩
  obtain ⟨w1, hst1⟩ : ∃ w1, w.alloc (.cells (hiA ⟨⟨3, conn, bs, draw, n, q⟩, A, cap⟩) 62) = w1 := ⟨_, rfl⟩
  rw [hst1] at h1'
  have H1 := Lib.hid h1'
  have ba := h1'.b0
  have fa0 := h1'.kind
  have fa1 := h1'.conn
  have fa2 := h1'.bs
  have fa3 := h1'.draw
  have fa4 := h1'.n
  simp only at fa0 fa1 fa2 fa3 fa4
  clear h1'
  by_cases e0 : conn = 0
  · have k0 : (conn == 0) = true := by simp [e0]
    by_cases e1 : bs.length = 0
    · have k1 : ((bs.length : Int) == 0) = true := by simp [e1]
      by_cases e2 : draw = 0
      · have k2 : ((draw : Int) == 0) = true := by simp [e2]
        by_cases e3 : 0 ≤ n
        · by_cases e4 : n ≤ 4294967295
          · cases e5 : bareB q
            · have HIT := Lib.hid (show itOk ⟨3, conn, bs, draw, n, q⟩ = false by simp [itOk, tickB, e0, e1, e2, e3, e4, e5])
              have hb := fun w => hbare_ok ⟨⟨3, conn, bs, draw, n, q⟩, A, cap⟩ w
              rw [show bareB (HIt.q (HRw.x ⟨⟨3, conn, bs, draw, n, q⟩, A, cap⟩)) = false from e5] at hb
              have HB := Lib.hid hb
              clear hb
              clear e0
              clear e1
              clear e2
              clear e5
              go_enter Tryz.func28, Tryz.ntmps28
              go_wp2_with (first
                | (refine load_bx rfl 62 (.tmp 1) rfl w.heap.size rfl 62 (hiA ⟨⟨3, conn, bs, draw, n, q⟩, A, cap⟩) _ (by assumption) Tryz.underlying62 rfl (hit_size _) ?_))
              refine (HB.out _).mono ?_
              rintro e wb ⟨rfl, hbb⟩
              have hb' := H1.out.below hbb
              have Hb := hb'
              have bb := hb'.b0
              have fb0 := hb'.kind
              have fb1 := hb'.conn
              have fb2 := hb'.bs
              have fb3 := hb'.draw
              have fb4 := hb'.n
              simp only at fb0 fb1 fb2 fb3 fb4
              clear hbb
              go_wp2_with (first
                | (refine load_bx rfl 62 (.tmp 1) rfl w.heap.size rfl 62 (hiA ⟨⟨3, conn, bs, draw, n, q⟩, A, cap⟩) _ (by assumption) Tryz.underlying62 rfl (hit_size _) ?_))
              go_ret
              exact ⟨by rw [HIT.out]; try rfl, Hb.bel⟩
            · have HIT := Lib.hid (show itOk ⟨3, conn, bs, draw, n, q⟩ = true by simp [itOk, tickB, e0, e1, e2, e3, e4, e5])
              have hb := fun w => hbare_ok ⟨⟨3, conn, bs, draw, n, q⟩, A, cap⟩ w
              rw [show bareB (HIt.q (HRw.x ⟨⟨3, conn, bs, draw, n, q⟩, A, cap⟩)) = true from e5] at hb
              have HB := Lib.hid hb
              clear hb
              clear e0
              clear e1
              clear e2
              clear e5
              go_enter Tryz.func28, Tryz.ntmps28
              go_wp2_with (first
                | (refine load_bx rfl 62 (.tmp 1) rfl w.heap.size rfl 62 (hiA ⟨⟨3, conn, bs, draw, n, q⟩, A, cap⟩) _ (by assumption) Tryz.underlying62 rfl (hit_size _) ?_))
              refine (HB.out _).mono ?_
              rintro e wb ⟨rfl, hbb⟩
              have hb' := H1.out.below hbb
              have Hb := hb'
              have bb := hb'.b0
              have fb0 := hb'.kind
              have fb1 := hb'.conn
              have fb2 := hb'.bs
              have fb3 := hb'.draw
              have fb4 := hb'.n
              simp only at fb0 fb1 fb2 fb3 fb4
              clear hbb
              go_wp2_with (first
                | (refine load_bx rfl 62 (.tmp 1) rfl w.heap.size rfl 62 (hiA ⟨⟨3, conn, bs, draw, n, q⟩, A, cap⟩) _ (by assumption) Tryz.underlying62 rfl (hit_size _) ?_))
              go_ret
              exact ⟨by rw [HIT.out]; try rfl, Hb.bel⟩
          · have HIT := Lib.hid (show itOk ⟨3, conn, bs, draw, n, q⟩ = false by simp [itOk, tickB, e0, e1, e2, e3, e4])
            clear e0
            clear e1
            clear e2
            go_enter Tryz.func28, Tryz.ntmps28
            go_wp2_with (first
              | (refine load_bx rfl 62 (.tmp 1) rfl w.heap.size rfl 62 (hiA ⟨⟨3, conn, bs, draw, n, q⟩, A, cap⟩) _ (by assumption) Tryz.underlying62 rfl (hit_size _) ?_))
            go_ret
            exact ⟨by rw [HIT.out]; try rfl, H1.out.bel⟩
        · have HIT := Lib.hid (show itOk ⟨3, conn, bs, draw, n, q⟩ = false by simp [itOk, tickB, e0, e1, e2, e3])
          clear e0
          clear e1
          clear e2
          go_enter Tryz.func28, Tryz.ntmps28
          go_wp2_with (first
            | (refine load_bx rfl 62 (.tmp 1) rfl w.heap.size rfl 62 (hiA ⟨⟨3, conn, bs, draw, n, q⟩, A, cap⟩) _ (by assumption) Tryz.underlying62 rfl (hit_size _) ?_))
          go_ret
          exact ⟨by rw [HIT.out]; try rfl, H1.out.bel⟩
      · have k2 : ((draw : Int) == 0) = false := by simpa using e2
        have HIT := Lib.hid (show itOk ⟨3, conn, bs, draw, n, q⟩ = false by simp [itOk, tickB, e0, e1, e2])
        clear e0
        clear e1
        clear e2
        go_enter Tryz.func28, Tryz.ntmps28
        go_wp2_with (first
          | (refine load_bx rfl 62 (.tmp 1) rfl w.heap.size rfl 62 (hiA ⟨⟨3, conn, bs, draw, n, q⟩, A, cap⟩) _ (by assumption) Tryz.underlying62 rfl (hit_size _) ?_))
        go_ret
        exact ⟨by rw [HIT.out]; try rfl, H1.out.bel⟩
    · have k1 : ((bs.length : Int) == 0) = false := by simpa using e1
      have HIT := Lib.hid (show itOk ⟨3, conn, bs, draw, n, q⟩ = false by simp [itOk, tickB, e0, e1])
      clear e0
      clear e1
      go_enter Tryz.func28, Tryz.ntmps28
      go_wp2_with (first
        | (refine load_bx rfl 62 (.tmp 1) rfl w.heap.size rfl 62 (hiA ⟨⟨3, conn, bs, draw, n, q⟩, A, cap⟩) _ (by assumption) Tryz.underlying62 rfl (hit_size _) ?_))
      go_ret
      exact ⟨by rw [HIT.out]; try rfl, H1.out.bel⟩
  · have k0 : (conn == 0) = false := by simpa using e0
    have HIT := Lib.hid (show itOk ⟨3, conn, bs, draw, n, q⟩ = false by simp [itOk, tickB, e0])
    clear e0
    go_enter Tryz.func28, Tryz.ntmps28
    go_wp2_with (first
      | (refine load_bx rfl 62 (.tmp 1) rfl w.heap.size rfl 62 (hiA ⟨⟨3, conn, bs, draw, n, q⟩, A, cap⟩) _ (by assumption) Tryz.underlying62 rfl (hit_size _) ?_))
    go_ret
    exact ⟨by rw [HIT.out]; try rfl, H1.out.bel⟩
theorem hright_4 (conn : Int) (bs : List UInt8) (draw : Nat) (n : Int) (q : Req) (A : Option Addr) (cap : Nat) (hq : q.fits) (w : World) : Calls Tryz.prog 28 #[.agg (hiA ⟨⟨4, conn, bs, draw, n, q⟩, A, cap⟩)] w (BPost w (itOk ⟨4, conn, bs, draw, n, q⟩)) := by
  have h1' := HBx.new 62 w ⟨⟨4, conn, bs, draw, n, q⟩, A, cap⟩
  obtain ⟨w1, hst1⟩ : ∃ w1, w.alloc (.cells (hiA ⟨⟨4, conn, bs, draw, n, q⟩, A, cap⟩) 62) = w1 := ⟨_, rfl⟩
  rw [hst1] at h1'
  have H1 := Lib.hid h1'
  have ba := h1'.b0
  have fa0 := h1'.kind
  have fa1 := h1'.conn
  have fa2 := h1'.bs
  have fa3 := h1'.draw
  have fa4 := h1'.n
  simp only at fa0 fa1 fa2 fa3 fa4
  clear h1'
  cases e0 : thB conn
  · have HIT := Lib.hid (show itOk ⟨4, conn, bs, draw, n, q⟩ = false by simp [itOk, tickB, e0])
    have ht := fun w => hthere_ok ⟨⟨4, conn, bs, draw, n, q⟩, A, cap⟩ w
    rw [show thB (HIt.conn (HRw.x ⟨⟨4, conn, bs, draw, n, q⟩, A, cap⟩)) = false from e0] at ht
    have HT := Lib.hid ht
    clear ht
    clear e0
    go_enter Tryz.func28, Tryz.ntmps28
    go_wp2_with (first
      | (refine load_bx rfl 62 (.tmp 1) rfl w.heap.size rfl 62 (hiA ⟨⟨4, conn, bs, draw, n, q⟩, A, cap⟩) _ (by assumption) Tryz.underlying62 rfl (hit_size _) ?_)
      | (refine load_arrG rfl 60 (.tmp 94) rfl w.heap.size 5 rfl (rqC q) _ (HBx.q (T := 62) (w := w) (r := ⟨⟨4, conn, bs, draw, n, q⟩, A, cap⟩) (by assumption)) Tryz.underlying60 rfl (rq_size _) ?_))
    refine (HT.out _).mono ?_
    rintro e wt ⟨rfl, hbt⟩
    have ht' := H1.out.below hbt
    have Ht := ht'
    have bt := ht'.b0
    have ft0 := ht'.kind
    have ft1 := ht'.conn
    have ft2 := ht'.bs
    have ft3 := ht'.draw
    have ft4 := ht'.n
    simp only at ft0 ft1 ft2 ft3 ft4
    clear hbt
    go_wp2_with (first
      | (refine load_bx rfl 62 (.tmp 1) rfl w.heap.size rfl 62 (hiA ⟨⟨4, conn, bs, draw, n, q⟩, A, cap⟩) _ (by assumption) Tryz.underlying62 rfl (hit_size _) ?_)
      | (refine load_arrG rfl 60 (.tmp 94) rfl w.heap.size 5 rfl (rqC q) _ (HBx.q (T := 62) (w := w) (r := ⟨⟨4, conn, bs, draw, n, q⟩, A, cap⟩) (by assumption)) Tryz.underlying60 rfl (rq_size _) ?_))
    go_ret
    exact ⟨by rw [HIT.out]; try rfl, Ht.bel⟩
  · by_cases e1 : bs.length = 0
    · have k1 : ((bs.length : Int) == 0) = true := by simp [e1]
      by_cases e2 : n = 0
      · have k2 : (n == 0) = true := by simp [e2]
        cases e3 : encOk q
        · have HIT := Lib.hid (show itOk ⟨4, conn, bs, draw, n, q⟩ = false by simp [itOk, tickB, e0, e1, e2, e3])
          have ht := fun w => hthere_ok ⟨⟨4, conn, bs, draw, n, q⟩, A, cap⟩ w
          rw [show thB (HIt.conn (HRw.x ⟨⟨4, conn, bs, draw, n, q⟩, A, cap⟩)) = true from e0] at ht
          have HT := Lib.hid ht
          clear ht
          have hb := fun w => Right_ok q w hq
          rw [e3] at hb
          have HB := Lib.hid hb
          clear hb
          clear e0
          clear e1
          clear e2
          clear e3
          go_enter Tryz.func28, Tryz.ntmps28
          go_wp2_with (first
            | (refine load_bx rfl 62 (.tmp 1) rfl w.heap.size rfl 62 (hiA ⟨⟨4, conn, bs, draw, n, q⟩, A, cap⟩) _ (by assumption) Tryz.underlying62 rfl (hit_size _) ?_)
            | (refine load_arrG rfl 60 (.tmp 94) rfl w.heap.size 5 rfl (rqC q) _ (HBx.q (T := 62) (w := w) (r := ⟨⟨4, conn, bs, draw, n, q⟩, A, cap⟩) (by assumption)) Tryz.underlying60 rfl (rq_size _) ?_))
          refine (HT.out _).mono ?_
          rintro e wt ⟨rfl, hbt⟩
          have ht' := H1.out.below hbt
          have Ht := ht'
          have bt := ht'.b0
          have ft0 := ht'.kind
          have ft1 := ht'.conn
          have ft2 := ht'.bs
          have ft3 := ht'.draw
          have ft4 := ht'.n
          simp only at ft0 ft1 ft2 ft3 ft4
          clear hbt
          go_wp2_with (first
            | (refine load_bx rfl 62 (.tmp 1) rfl w.heap.size rfl 62 (hiA ⟨⟨4, conn, bs, draw, n, q⟩, A, cap⟩) _ (by assumption) Tryz.underlying62 rfl (hit_size _) ?_)
            | (refine load_arrG rfl 60 (.tmp 94) rfl w.heap.size 5 rfl (rqC q) _ (HBx.q (T := 62) (w := w) (r := ⟨⟨4, conn, bs, draw, n, q⟩, A, cap⟩) (by assumption)) Tryz.underlying60 rfl (rq_size _) ?_))
          refine (HB.out _).mono ?_
          rintro e wb ⟨rfl, hbb⟩
          have hb' := Ht.below hbb
          have Hb := hb'
          have bb := hb'.b0
          have fb0 := hb'.kind
          have fb1 := hb'.conn
          have fb2 := hb'.bs
          have fb3 := hb'.draw
          have fb4 := hb'.n
          simp only at fb0 fb1 fb2 fb3 fb4
          clear hbb
          go_wp2_with (first
            | (refine load_bx rfl 62 (.tmp 1) rfl w.heap.size rfl 62 (hiA ⟨⟨4, conn, bs, draw, n, q⟩, A, cap⟩) _ (by assumption) Tryz.underlying62 rfl (hit_size _) ?_)
            | (refine load_arrG rfl 60 (.tmp 94) rfl w.heap.size 5 rfl (rqC q) _ (HBx.q (T := 62) (w := w) (r := ⟨⟨4, conn, bs, draw, n, q⟩, A, cap⟩) (by assumption)) Tryz.underlying60 rfl (rq_size _) ?_))
          go_ret
          exact ⟨by rw [HIT.out]; try rfl, Hb.bel⟩
        · have HIT := Lib.hid (show itOk ⟨4, conn, bs, draw, n, q⟩ = true by simp [itOk, tickB, e0, e1, e2, e3])
          have ht := fun w => hthere_ok ⟨⟨4, conn, bs, draw, n, q⟩, A, cap⟩ w
          rw [show thB (HIt.conn (HRw.x ⟨⟨4, conn, bs, draw, n, q⟩, A, cap⟩)) = true from e0] at ht
          have HT := Lib.hid ht
          clear ht
          have hb := fun w => Right_ok q w hq
          rw [e3] at hb
          have HB := Lib.hid hb
          clear hb
          clear e0
          clear e1
          clear e2
          clear e3
          go_enter Tryz.func28, Tryz.ntmps28
          go_wp2_with (first
            | (refine load_bx rfl 62 (.tmp 1) rfl w.heap.size rfl 62 (hiA ⟨⟨4, conn, bs, draw, n, q⟩, A, cap⟩) _ (by assumption) Tryz.underlying62 rfl (hit_size _) ?_)
            | (refine load_arrG rfl 60 (.tmp 94) rfl w.heap.size 5 rfl (rqC q) _ (HBx.q (T := 62) (w := w) (r := ⟨⟨4, conn, bs, draw, n, q⟩, A, cap⟩) (by assumption)) Tryz.underlying60 rfl (rq_size _) ?_))
          refine (HT.out _).mono ?_
          rintro e wt ⟨rfl, hbt⟩
          have ht' := H1.out.below hbt
          have Ht := ht'
          have bt := ht'.b0
          have ft0 := ht'.kind
          have ft1 := ht'.conn
          have ft2 := ht'.bs
          have ft3 := ht'.draw
          have ft4 := ht'.n
          simp only at ft0 ft1 ft2 ft3 ft4
          clear hbt
          go_wp2_with (first
            | (refine load_bx rfl 62 (.tmp 1) rfl w.heap.size rfl 62 (hiA ⟨⟨4, conn, bs, draw, n, q⟩, A, cap⟩) _ (by assumption) Tryz.underlying62 rfl (hit_size _) ?_)
            | (refine load_arrG rfl 60 (.tmp 94) rfl w.heap.size 5 rfl (rqC q) _ (HBx.q (T := 62) (w := w) (r := ⟨⟨4, conn, bs, draw, n, q⟩, A, cap⟩) (by assumption)) Tryz.underlying60 rfl (rq_size _) ?_))
          refine (HB.out _).mono ?_
          rintro e wb ⟨rfl, hbb⟩
          have hb' := Ht.below hbb
          have Hb := hb'
          have bb := hb'.b0
          have fb0 := hb'.kind
          have fb1 := hb'.conn
          have fb2 := hb'.bs
          have fb3 := hb'.draw
          have fb4 := hb'.n
          simp only at fb0 fb1 fb2 fb3 fb4
          clear hbb
          go_wp2_with (first
            | (refine load_bx rfl 62 (.tmp 1) rfl w.heap.size rfl 62 (hiA ⟨⟨4, conn, bs, draw, n, q⟩, A, cap⟩) _ (by assumption) Tryz.underlying62 rfl (hit_size _) ?_)
            | (refine load_arrG rfl 60 (.tmp 94) rfl w.heap.size 5 rfl (rqC q) _ (HBx.q (T := 62) (w := w) (r := ⟨⟨4, conn, bs, draw, n, q⟩, A, cap⟩) (by assumption)) Tryz.underlying60 rfl (rq_size _) ?_))
          go_ret
          exact ⟨by rw [HIT.out]; try rfl, Hb.bel⟩
      · have k2 : (n == 0) = false := by simpa using e2
        have HIT := Lib.hid (show itOk ⟨4, conn, bs, draw, n, q⟩ = false by simp [itOk, tickB, e0, e1, e2])
        have ht := fun w => hthere_ok ⟨⟨4, conn, bs, draw, n, q⟩, A, cap⟩ w
        rw [show thB (HIt.conn (HRw.x ⟨⟨4, conn, bs, draw, n, q⟩, A, cap⟩)) = true from e0] at ht
        have HT := Lib.hid ht
        clear ht
        clear e0
        clear e1
        clear e2
        go_enter Tryz.func28, Tryz.ntmps28
        go_wp2_with (first
          | (refine load_bx rfl 62 (.tmp 1) rfl w.heap.size rfl 62 (hiA ⟨⟨4, conn, bs, draw, n, q⟩, A, cap⟩) _ (by assumption) Tryz.underlying62 rfl (hit_size _) ?_)
          | (refine load_arrG rfl 60 (.tmp 94) rfl w.heap.size 5 rfl (rqC q) _ (HBx.q (T := 62) (w := w) (r := ⟨⟨4, conn, bs, draw, n, q⟩, A, cap⟩) (by assumption)) Tryz.underlying60 rfl (rq_size _) ?_))
        refine (HT.out _).mono ?_
        rintro e wt ⟨rfl, hbt⟩
        have ht' := H1.out.below hbt
        have Ht := ht'
        have bt := ht'.b0
        have ft0 := ht'.kind
        have ft1 := ht'.conn
        have ft2 := ht'.bs
        have ft3 := ht'.draw
        have ft4 := ht'.n
        simp only at ft0 ft1 ft2 ft3 ft4
        clear hbt
        go_wp2_with (first
          | (refine load_bx rfl 62 (.tmp 1) rfl w.heap.size rfl 62 (hiA ⟨⟨4, conn, bs, draw, n, q⟩, A, cap⟩) _ (by assumption) Tryz.underlying62 rfl (hit_size _) ?_)
          | (refine load_arrG rfl 60 (.tmp 94) rfl w.heap.size 5 rfl (rqC q) _ (HBx.q (T := 62) (w := w) (r := ⟨⟨4, conn, bs, draw, n, q⟩, A, cap⟩) (by assumption)) Tryz.underlying60 rfl (rq_size _) ?_))
        go_ret
        exact ⟨by rw [HIT.out]; try rfl, Ht.bel⟩
    · have k1 : ((bs.length : Int) == 0) = false := by simpa using e1
      have HIT := Lib.hid (show itOk ⟨4, conn, bs, draw, n, q⟩ = false by simp [itOk, tickB, e0, e1])
      have ht := fun w => hthere_ok ⟨⟨4, conn, bs, draw, n, q⟩, A, cap⟩ w
      rw [show thB (HIt.conn (HRw.x ⟨⟨4, conn, bs, draw, n, q⟩, A, cap⟩)) = true from e0] at ht
      have HT := Lib.hid ht
      clear ht
      clear e0
      clear e1
      go_enter Tryz.func28, Tryz.ntmps28
      go_wp2_with (first
        | (refine load_bx rfl 62 (.tmp 1) rfl w.heap.size rfl 62 (hiA ⟨⟨4, conn, bs, draw, n, q⟩, A, cap⟩) _ (by assumption) Tryz.underlying62 rfl (hit_size _) ?_)
        | (refine load_arrG rfl 60 (.tmp 94) rfl w.heap.size 5 rfl (rqC q) _ (HBx.q (T := 62) (w := w) (r := ⟨⟨4, conn, bs, draw, n, q⟩, A, cap⟩) (by assumption)) Tryz.underlying60 rfl (rq_size _) ?_))
      refine (HT.out _).mono ?_
      rintro e wt ⟨rfl, hbt⟩
      have ht' := H1.out.below hbt
      have Ht := ht'
      have bt := ht'.b0
      have ft0 := ht'.kind
      have ft1 := ht'.conn
      have ft2 := ht'.bs
      have ft3 := ht'.draw
      have ft4 := ht'.n
      simp only at ft0 ft1 ft2 ft3 ft4
      clear hbt
      go_wp2_with (first
        | (refine load_bx rfl 62 (.tmp 1) rfl w.heap.size rfl 62 (hiA ⟨⟨4, conn, bs, draw, n, q⟩, A, cap⟩) _ (by assumption) Tryz.underlying62 rfl (hit_size _) ?_)
        | (refine load_arrG rfl 60 (.tmp 94) rfl w.heap.size 5 rfl (rqC q) _ (HBx.q (T := 62) (w := w) (r := ⟨⟨4, conn, bs, draw, n, q⟩, A, cap⟩) (by assumption)) Tryz.underlying60 rfl (rq_size _) ?_))
      go_ret
      exact ⟨by rw [HIT.out]; try rfl, Ht.bel⟩
theorem hright_0 (kind conn : Int) (bs : List UInt8) (draw : Nat) (n : Int) (q : Req) (A : Option Addr) (cap : Nat) (h1 : kind ≠ 1) (h2 : kind ≠ 2) (h3 : kind ≠ 3) (h4 : kind ≠ 4) (hq : q.fits) (w : World) : Calls Tryz.prog 28 #[.agg (hiA ⟨⟨kind, conn, bs, draw, n, q⟩, A, cap⟩)] w (BPost w (itOk ⟨kind, conn, bs, draw, n, q⟩)) := by
  have h1' := HBx.new 62 w ⟨⟨kind, conn, bs, draw, n, q⟩, A, cap⟩
  obtain ⟨w1, hst1⟩ : ∃ w1, w.alloc (.cells (hiA ⟨⟨kind, conn, bs, draw, n, q⟩, A, cap⟩) 62) = w1 := ⟨_, rfl⟩
  rw [hst1] at h1'
  have H1 := Lib.hid h1'
  have ba := h1'.b0
  have fa0 := h1'.kind
  have fa1 := h1'.conn
  have fa2 := h1'.bs
  have fa3 := h1'.draw
  have fa4 := h1'.n
  simp only at fa0 fa1 fa2 fa3 fa4
  clear h1'
  have g1 : (kind == 1) = false := by simpa using h1
  have g2 : (kind == 2) = false := by simpa using h2
  have g3 : (kind == 3) = false := by simpa using h3
  have g4 : (kind == 4) = false := by simpa using h4
  have HIT := Lib.hid (show itOk ⟨kind, conn, bs, draw, n, q⟩ = false by simp [itOk, h1, h2, h3, h4])
  go_enter Tryz.func28, Tryz.ntmps28
  go_wp2_with fail
  go_ret
  exact ⟨by rw [HIT.out]; try rfl, H1.out.bel⟩
theorem hright_ok (r : HRw) (w : World) (hq : r.x.q.fits) : Calls Tryz.prog 28 #[.agg (hiA r)] w (BPost w (itOk r.x)) := by
  obtain ⟨⟨kind, conn, bs, draw, n, q⟩, A, cap⟩ := r
  by_cases h1 : kind = 1
  · subst h1; exact hright_1 conn bs draw n q A cap hq w
  · by_cases h2 : kind = 2
    · subst h2; exact hright_2 conn bs draw n q A cap hq w
    · by_cases h3 : kind = 3
      · subst h3; exact hright_3 conn bs draw n q A cap hq w
      · by_cases h4 : kind = 4
        · subst h4; exact hright_4 conn bs draw n q A cap hq w
        · exact hright_0 kind conn bs draw n q A cap h1 h2 h3 h4 hq w
end Go.Proofs.YtldjgpnbkbmgoaaGreatDoor

