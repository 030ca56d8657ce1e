/-
  WireEncodes holds: for any request: the law returns true, and its argument reads as it did. Conditions: none.
-/
import Derived.Test.YtejmceihgndbhaaLawBack
import Derived.Test.YtejmceihgndbhaaOpenIb
import Derived.Test.YtejmceihgndbhaaBytes
namespace Go.Proofs.Ytejmceihgndbhaa
open Go.RowKit Go.ChangeShapes Go.WideShapes Go.Lib
attribute [local go_sem ↓] load_req stop_req
theorem rbytes_ok (q : Req) (w : World) (hq : q.fits) (hib : q.ib) : Calls Try.prog 14 #[.agg (rqC q)] w (YPost w (rbOk q) (rbL q)) := by
  by_cases hop : isOp q.op = true
  · by_cases hm : q.m ≤ 64
    · by_cases ht : q.txt.length ≤ 512
      · exact rbytes_go q w hq hib hop hm ht
      · have h : rbOk q = false := by unfold rbOk; simp [ht]
        rw [h]
        exact rbytes_no q w (.inr (.inr ⟨hop, hm, by omega⟩))
    · have h : rbOk q = false := by unfold rbOk; simp [hm]
      rw [h]
      exact rbytes_no q w (.inr (.inl ⟨hop, by omega⟩))
  · have hop' : isOp q.op = false := by simpa using hop
    have h : rbOk q = false := by unfold rbOk; simp [hop']
    rw [h]
    exact rbytes_no q w (.inl hop')

theorem RQ.drewN {w wx : World} {q : Req} (h : RQ w wx q) (n : Nat) : RQ w (wx.drewN n) q := ⟨h.b0.drewN n, below_drewN h.bel n⟩
set_option maxRecDepth 100000 in
set_option maxHeartbeats 4000000 in
theorem law_encodes (q : Req) (hq : q.fits) (hib : q.ib) (w : World) : Calls Try.prog 6 #[.agg (rqC q)] w (Holds w) := by
  have HQ := Lib.hid hq
  have HB := Lib.hid hib
  have hr := RQ.new w q
  obtain ⟨w1, hst1⟩ : ∃ w1, w.alloc (.cells (rqC q) 31) = w1 := ⟨_, rfl⟩
  rw [hst1] at hr
  have HR1 := Lib.hid hr
  clear hr hq hib
  go_enter Try.func6, Try.ntmps6
  go_wp2_with (refine wpList_load_row rfl 31 (.tmp 1) rfl w.heap.size rfl 31 (rqC q) (0, 0) _ HR1.out.b0 Try.underlying31 rfl (rq_size _) ?_)
  refine (Encode_ok q _ HQ.out).mono ?_
  rintro e w2 ⟨v, l, rfl, hs, h0, h1, hb⟩
  have HR2 := Lib.hid (HR1.out.below hb)
  have HS2 := Lib.hid hs
  have H0 := Lib.hid h0
  have H1 := Lib.hid h1
  obtain ⟨A, cap, rfl, hlc, hcm, -⟩ := hs
  unfold maxLen at hcm
  clear hb h0 h1
  go_wp2_with (refine wpList_load_row rfl 31 (.tmp 1) rfl w.heap.size rfl 31 (rqC q) (0, 0) _ HR2.out.b0 Try.underlying31 rfl (rq_size _) ?_)
  refine (rbytes_ok q _ HQ.out HB.out).mono ?_
  rintro e w3 ⟨v', l', rfl, hs', h0', hb3⟩
  have HR3 := Lib.hid (HR2.out.below hb3)
  have HS3 := Lib.hid ((HS2.out.below hb3).more hb3.size)
  have HT3 := Lib.hid hs'
  have H2 := Lib.hid h0'
  obtain ⟨A', cap', rfl, hlc', hcm', -⟩ := hs'
  unfold maxLen at hcm'
  clear hb3 h0'
  have HOK := Lib.hid (enc_rb q).1
  have HLL := Lib.hid (enc_rb q).2
  rw [← HOK.out]
  go_wp2_with (refine wpList_load_row rfl 31 (.tmp 1) rfl w.heap.size rfl 31 (rqC q) (0, 0) _ HR3.out.b0 Try.underlying31 rfl (rq_size _) ?_)
  refine (Right_ok q _ HQ.out).mono ?_
  rintro e w4 ⟨rfl, hb4⟩
  have HR4 := Lib.hid (HR3.out.below hb4)
  have HS4 := Lib.hid ((HS3.out.below hb4).more hb4.size)
  have HT4 := Lib.hid ((HT3.out.below hb4).more hb4.size)
  have c4 : w4.cell? ⟨w.heap.size, 0, none⟩ = some (.int .i64 q.op) := HR4.out.b0.is 0 rfl
  have hbb : ∀ b : Bool, (b != b) = false := by simp
  have hk := hbb (encOk q)
  clear hb4 hbb
  by_cases hop : isOp q.op = false
  · have hE : encE q = 51 := if_pos hop
    have hl := H1.out (by rw [hE]; decide)
    subst hl
    have HP := Lib.hid hop
    rw [hE]
    generalize encOk q = K at *
    clear hE hop
    go_wp2_with fail
    refine (rthere_ok q.op _).mono ?_
    rintro e w5 ⟨rfl, rfl⟩
    rw [HP.out]
    go_wp2_with fail
    refine (known_ok _).mono ?_
    rintro e w6 ⟨rfl, hb6⟩
    have HR6 := Lib.hid (HR4.out.below hb6)
    clear hb6
    go_wp2_with fail
    go_ret
    exact ⟨rfl, HR6.out.bel⟩
  · have hop' : isOp q.op = true := by simpa using hop
    by_cases ho : encOk q = true
    · have hE : encE q = 0 := by unfold encE; rw [if_neg hop, if_pos ho]
      have hl := H0.out hE
      have hl2 := H2.out (HOK.out ▸ ho)
      subst hl
      subst hl2
      have HP := Lib.hid hop'
      have HLE := Lib.hid (HLL.out ho)
      rw [hE]
      have hot := ho
      rw [ho] at hk ⊢
      clear hE hop hop' ho hot
      go_wp2_with fail
      refine (rthere_ok q.op _).mono ?_
      rintro e w5 ⟨rfl, rfl⟩
      rw [HP.out]
      go_wp2_with fail
      refine (rsame_ok (encL q) (rbL q) _ _ _ _ HS4.out HT4.out).mono ?_
      rintro e w5 ⟨rfl, n, rfl⟩
      have hd : decide (encL q = rbL q) = true := decide_eq_true HLE.out
      rw [hd]
      have HR5 := Lib.hid (HR4.out.drewN n)
      clear hd
      go_wp2_with fail
      refine (known_ok _).mono ?_
      rintro e w6 ⟨rfl, hb6⟩
      have HR6 := Lib.hid (HR5.out.below hb6)
      clear hb6
      go_wp2_with fail
      go_ret
      exact ⟨rfl, HR6.out.bel⟩
    · have ho' : encOk q = false := by simpa using ho
      have hE : encE q = 1 := by unfold encE; rw [if_neg hop, if_neg ho]
      have hl := H1.out (by rw [hE]; decide)
      subst hl
      have HP := Lib.hid hop'
      rw [hE]
      rw [ho'] at hk ⊢
      clear hE hop hop' ho ho'
      go_wp2_with fail
      refine (rthere_ok q.op _).mono ?_
      rintro e w5 ⟨rfl, rfl⟩
      rw [HP.out]
      go_wp2_with fail
      refine (known_ok _).mono ?_
      rintro e w6 ⟨rfl, hb6⟩
      have HR6 := Lib.hid (HR4.out.below hb6)
      clear hb6
      go_wp2_with fail
      go_ret
      exact ⟨rfl, HR6.out.bel⟩

theorem wireEncodes_lifted (os : Os) (started : os.Started) (H : Type) (enc : TypeId × Value → H) :
    ReturnsInHanded {} Try.checked os 6 .any (Rows.wireEncodesSpec.pre6 enc Try.prog Try.f6 Rows.wireEncodesRow.domain false) (Rows.wireEncodesSpec.post enc Try.prog Try.f6 false true false false) := by
  refine law_lifts_sized (C := Try.checked) knob_none laid_out started (by kernel_rfl) Try.func6 Try.underlying4 rfl (fun t ht => ?_) rfl (fun ds hd => ?_)
    (ChangeSpec.witness6 (enc := enc) (C := Try.checked) false ⟨#[], #[.agg #[.int .i64 0, .int .i64 0, .int .i64 0, .int .u64 0, .int .i64 0, .int .i64 0, .int .i64 0, .int .i64 0, .int .i64 0, .string ⟨#[]⟩, .int .i64 0, .int .i64 0, .int .i64 0, .int .i64 0, .int .i64 0, .int .i64 0, .int .i64 0, .int .u64 0, .int .i64 0, .int .u64 0, .int .i64 0, .int .i64 0, .int .i64 0, .int .i64 0]], []⟩ 8 (by kernel_rfl) (by kernel_rfl) (by kernel_rfl) (by kernel_rfl)) ?_
  · have h : ([31] : List TypeId).all (fun t => Try.prog.readableRec t && decide (t < Try.prog.types.size)) = true := by kernel_rfl
    have hm : t ∈ ([31] : List TypeId) := by
      have : t ∈ ([31] : List TypeId) := ht
      exact this
    have := List.all_eq_true.1 h t hm
    simp only [Bool.and_eq_true, decide_eq_true_eq] at this
    exact this
  · match ds, hd with
    | [d1], _ => exact ⟨rfl, rfl, rfl⟩
  · intro W base args ds ps hval hA hwt
    have hA' : DataW.TrodAll enc Try.prog W 0 (fun _ => true) true [31] args.toList ds ps := hA
    obtain ⟨v0, d0, rfl, rfl, h0⟩ := trodAll_one hA'
    obtain ⟨q, rfl, hok, hib, hm⟩ := open_req_ib (hval 0 31 v0 rfl rfl) h0
    exact law_encodes q (req_fits hok (j := 0) (d := d0) rfl rfl hm hwt) hib W

theorem wireEncodes_holds : Rows.WireEncodesSaid :=
  OpenClaim.holds_of_wide 6 Try.f6 rfl rfl rfl rfl rfl rfl rfl ⟨rfl, rfl, rfl, rfl, rfl⟩ rfl rfl rfl rfl rfl (by kernel_rfl) Try.func6 (by kernel_rfl)
    (of_decide_eq_true (by kernel_rfl)) (by unfold Func.isWrapper; rw [if_neg (of_decide_eq_false (by kernel_rfl))]; exact ⟨rfl, rfl⟩)
    (fun os started H enc _ => wireEncodes_lifted os started H enc)
end Go.Proofs.Ytejmceihgndbhaa
