/-
  WireNeeds holds: for any request: the law returns true, and its argument reads as it did. Conditions: none.
-/
import Derived.Test.YtejmceihgndbhaaSized
import Derived.Test.YtejmceihgndbhaaBack
import Derived.Deep.DeepCutAuto
namespace Go.Proofs.Ytejmceihgndbhaa
open Go.RowKit Go.ChangeShapes Go.WideShapes Go.Lib
attribute [local go_sem ↓] load_req stop_req

/-- A request lies in the first block that was made. -/
structure RQ (w wx : World) (q : Req) : Prop where
  b0 : Blk wx w.heap.size 31 (rqC q)
  bel : Below w.heap.size w wx
theorem RQ.below {w wx wy : World} {q : Req} (h : RQ w wx q) (hb : Below wx.heap.size wx wy) : RQ w wy q := ⟨h.b0.below hb h.b0.lt, h.bel.trans (hb.mono h.bel.size)⟩
theorem RQ.new (w : World) (q : Req) : RQ w (w.alloc (.cells (rqC q) 31)) q := ⟨Blk.new w _ _, (Below.refl _ _).alloc (Nat.le_refl _) _⟩
theorem RQ.drew {w wx : World} {q : Req} (h : RQ w wx q) : RQ w wx.drew q := ⟨h.b0, below_drew h.bel⟩
set_option maxRecDepth 100000 in
set_option maxHeartbeats 4000000 in
theorem law_needs (q : Req) (hq : q.fits) (w : World) : Calls Try.prog 4 #[.agg (rqC q)] w (Holds w) := by
  have HQ := Lib.hid hq
  have hr := RQ.new w q
  obtain ⟨w1, hst1⟩ : ∃ w1, w.alloc (.cells (rqC q) 31) = w1 := ⟨_, rfl⟩
  rw [hst1] at hr
  have hrd := hr.drew
  have c1 : w1.drew.cell? ⟨w.heap.size, 0, none⟩ = some (.int .i64 q.op) := hrd.b0.is 0 rfl
  have hlen := hq.2
  clear hq
  go_enter Try.func4, Try.ntmps4
  go_upto_region 1 with fail
  go_cut [12] (fun b wx => b = .bool false ∧ RQ w wx q)
  case first =>
    go_region_with (first
      | ((with_reducible refine (needs_ok q.op _).mono ?_); rintro e wa ⟨rfl, ha⟩; have hra := RQ.below (by assumption) ha; have ca : wa.cell? ⟨w.heap.size, 0, none⟩ = some (.int .i64 q.op) := hra.b0.is 0 rfl; clear ha)
      | ((with_reducible refine (rneeds_ok q.op _).mono ?_); rintro e wb ⟨rfl, hb⟩; have hrb := RQ.below (by assumption) hb; have cb : wb.cell? ⟨w.heap.size, 0, none⟩ = some (.int .i64 q.op) := hrb.b0.is 0 rfl; clear hb))
    all_goals
      go_wp2_with fail
      go_meet
      exact ⟨by simp, by assumption⟩
  case rest =>
  obtain ⟨rfl, hrq⟩ := hcut
  have HR := Lib.hid hrq
  clear hrq hr hrd c1 hst1
  go_wp2_with (refine wpList_load_row rfl 31 (.tmp 1) rfl w.heap.size rfl 31 (rqC q) (0, 0) _ HR.out.b0 Try.underlying31 rfl (rq_size _) ?_)
  refine (Encode_ok q _ HQ.out).mono ?_
  rintro e w2 ⟨v, l, rfl, hs, h0, h1, hb⟩
  have HR2 := Lib.hid (HR.out.below hb)
  obtain ⟨A, cap, rfl, hlc, hcm, -⟩ := hs
  unfold maxLen at hcm
  clear hb
  by_cases hE : encE q = 0
  · have hl := h0 hE
    subst hl
    obtain ⟨hg, hqb⟩ := enc_good (encE_ok hE)
    have hlen2 := hg.length
    rw [← hqb] at hlen2
    have hop := hg.op
    rw [← bodyQ_op, ← hqb] at hop
    have hN := fieldsN_le q.op
    have hnz : needsZ q.op = fieldsN q.op := if_pos hop
    have htop := hg.top
    have h13 := hg.len
    rw [hE]
    have hn := fun w => needs_ok q.op w
    rw [hnz] at hn
    have HN := Lib.hid hn
    obtain ⟨n, hn'⟩ : ∃ n, (encL q).length = n := ⟨_, rfl⟩
    rw [hn'] at hlen2 htop h13 hlc ⊢
    obtain ⟨N, hN'⟩ : ∃ N, fieldsN q.op = N := ⟨_, rfl⟩
    have HNV := Lib.hid hN'
    rw [hN'] at hlen2 hN HN
    have HL2 := Lib.hid hlen2
    clear hn hnz hop hqb hg hE h0 h1 hn' hN' hlen2
    have c2 : w2.cell? ⟨w.heap.size, 0, none⟩ = some (.int .i64 q.op) := HR2.out.b0.is 0 rfl
    go_wp2_with fail
    refine (HN.out _).mono ?_
    rintro e w3 ⟨rfl, hb3⟩
    have HR3 := Lib.hid (HR2.out.below hb3)
    have c3 : w3.cell? ⟨w.heap.size, 0, none⟩ = some (.int .i64 q.op) := HR3.out.b0.is 0 rfl
    have c9 : w3.cell? ⟨w.heap.size, 9, none⟩ = some (strV q.txt) := HR3.out.b0.is 9 rfl
    clear hb3
    obtain ⟨t, ht⟩ : ∃ t, q.txt.length = t := ⟨_, rfl⟩
    rw [ht] at HL2 hlen
    have k2 : ((n : Nat) : Int) ≤ 600 := by omega
    have HT := Lib.hid ht
    have hts := str_size q.txt
    rw [ht] at hts
    clear ht htop h13
    by_cases h3 : q.op = 3
    · have hb3 : (q.op == 3) = true := by simp [h3]
      rw [if_pos h3] at HL2
      have hN0 : N = 0 := by rw [← HNV.out, h3]; rfl
      subst hN0
      have k1 : ((n : Int) == 13 + (t : Int)) = true := by rw [beq_iff_eq]; have := HL2.out; omega
      clear h3
      go_wp2_with fail
      refine (known_ok _).mono ?_
      rintro e w4 ⟨rfl, hb4⟩
      have HR4 := Lib.hid (HR3.out.below hb4)
      clear hb4
      go_wp2_with fail
      go_ret
      exact ⟨rfl, HR4.out.bel⟩
    · have hb3 : (q.op == 3) = false := by simp [h3]
      rw [if_neg h3] at HL2
      have k1 : ((n : Int) == 13 + (N : Int)) = true := by rw [beq_iff_eq]; have := HL2.out; omega
      clear h3
      go_wp2_with fail
      refine (known_ok _).mono ?_
      rintro e w4 ⟨rfl, hb4⟩
      have HR4 := Lib.hid (HR3.out.below hb4)
      clear hb4
      go_wp2_with fail
      go_ret
      exact ⟨rfl, HR4.out.bel⟩
  · have HE := Lib.hid hE
    have k1 : (encE q == 0) = false := by simpa using hE
    have k2 : (encE q != 0) = true := by simp [hE]
    clear hE h0 h1
    generalize encE q = E at *
    go_wp2_with fail
    refine (known_ok _).mono ?_
    rintro e w3 ⟨rfl, hb3⟩
    have HR3 := Lib.hid (HR2.out.below hb3)
    clear hb3
    go_wp2_with fail
    go_ret
    exact ⟨rfl, HR3.out.bel⟩

theorem wireNeeds_lifted (os : Os) (started : os.Started) (H : Type) (enc : TypeId × Value → H) :
    ReturnsInHanded {} Try.checked os 4 .any (Rows.wireNeedsSpec.pre6 enc Try.prog Try.f4 Rows.wireNeedsRow.domain false) (Rows.wireNeedsSpec.post enc Try.prog Try.f4 false true false false) := by
  refine law_lifts_sized (C := Try.checked) knob_none laid_out started (by kernel_rfl) Try.func4 Try.underlying4 rfl (fun t ht => ?_) rfl (fun ds hd => ?_)
    (ChangeSpec.witness6 (enc := enc) (C := Try.checked) false ⟨#[], #[.agg #[.int .i64 0, .int .i64 0, .int .i64 0, .int .u64 0, .int .i64 0, .int .i64 0, .int .i64 0, .int .i64 0, .int .i64 0, .string ⟨#[]⟩, .int .i64 0, .int .i64 0, .int .i64 0, .int .i64 0, .int .i64 0, .int .i64 0, .int .i64 0, .int .u64 0, .int .i64 0, .int .u64 0, .int .i64 0, .int .i64 0, .int .i64 0, .int .i64 0]], []⟩ 8 (by kernel_rfl) (by kernel_rfl) (by kernel_rfl) (by kernel_rfl)) ?_
  · have h : ([31] : List TypeId).all (fun t => Try.prog.readableRec t && decide (t < Try.prog.types.size)) = true := by kernel_rfl
    have hm : t ∈ ([31] : List TypeId) := by
      have : t ∈ ([31] : List TypeId) := ht
      exact this
    have := List.all_eq_true.1 h t hm
    simp only [Bool.and_eq_true, decide_eq_true_eq] at this
    exact this
  · match ds, hd with
    | [d1], _ => exact ⟨rfl, rfl, rfl⟩
  · intro W base args ds ps hval hA hwt
    have hA' : DataW.TrodAll enc Try.prog W 0 (fun _ => true) true [31] args.toList ds ps := hA
    obtain ⟨v0, d0, rfl, rfl, h0⟩ := trodAll_one hA'
    obtain ⟨q, rfl, hok, hm⟩ := open_req (hval 0 31 v0 rfl rfl) h0
    exact law_needs q (req_fits hok (j := 0) (d := d0) rfl rfl hm hwt) W

theorem wireNeeds_holds : Rows.WireNeedsSaid :=
  OpenClaim.holds_of_wide 4 Try.f4 rfl rfl rfl rfl rfl rfl rfl ⟨rfl, rfl, rfl, rfl, rfl⟩ rfl rfl rfl rfl rfl (by kernel_rfl) Try.func4 (by kernel_rfl)
    (of_decide_eq_true (by kernel_rfl)) (by unfold Func.isWrapper; rw [if_neg (of_decide_eq_false (by kernel_rfl))]; exact ⟨rfl, rfl⟩)
    (fun os started H enc _ => wireNeeds_lifted os started H enc)
end Go.Proofs.Ytejmceihgndbhaa
