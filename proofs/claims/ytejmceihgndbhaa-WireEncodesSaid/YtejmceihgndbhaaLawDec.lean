/-
  WireDecodes holds: for any bytes: the law returns true, and its argument reads as it did. Conditions: none.
-/
import Derived.Test.YtejmceihgndbhaaOpen
namespace Go.Proofs.Ytejmceihgndbhaa
open Go.RowKit Go.ChangeShapes Go.WideShapes Go.Lib
attribute [local go_sem ↓] load_req stop_req

theorem reqEq_self (q : Req) : reqEq q q = true := decide_eq_true rfl

set_option maxRecDepth 100000 in
set_option maxHeartbeats 4000000 in
theorem law_decodes (l : List UInt8) (s : Value) (w : World) (hs : Sl byC w w.heap.size s l) : Calls Try.prog 3 #[s] w (Holds w) := by
  have HS := Lib.hid hs
  obtain ⟨A, cap, rfl, -⟩ := hs
  have HD := Lib.hid (dec_eq l)
  go_enter Try.func3, Try.ntmps3
  go_wp2_with fail
  refine (decode_ok l _ w HS.out).mono ?_
  rintro e w1 ⟨rfl, hb1⟩
  have HW1 := Lib.hid hb1
  rw [HD.out]
  obtain ⟨d, hd⟩ : ∃ d, rdec l = d := ⟨_, rfl⟩
  rw [hd]
  have HRD := Lib.hid hd
  have HN2 := Lib.hid (Blk.new w1 31 zeroC)
  have HW2 := Lib.hid (HW1.out.alloc HW1.out.size (.cells zeroC 31))
  clear hb1 hd
  obtain ⟨w2, hst2⟩ : ∃ w2, w1.alloc (.cells zeroC 31) = w2 := ⟨_, rfl⟩
  rw [hst2] at HN2 HW2
  have HN3 := Lib.hid (HN2.out.row (rqC d.1))
  have HW3 := Lib.hid (below_setRow HW2.out (g := w1.heap.size) HW1.out.size (rqC d.1))
  obtain ⟨w3, hst3⟩ : ∃ w3, w2.setRow w1.heap.size (rqC d.1) = w3 := ⟨_, rfl⟩
  rw [hst3] at HN3 HW3
  go_wp2_with (refine wpList_store_row rfl 31 (.tmp 3) (.tmp 10) rfl w1.heap.size (rqC d.1) rfl rfl 31 zeroC HN2.out (rq_size _) rfl (rq_one _) ?_)
  refine (rdecode_ok l _ w3 ((HS.out.below HW3.out).more HW3.out.size)).mono ?_
  rintro e w4 ⟨rfl, hb4⟩
  rw [HRD.out]
  have HN4 := Lib.hid (HN3.out.below hb4 HN3.out.lt)
  have HW4 := Lib.hid (HW3.out.trans (hb4.mono HW3.out.size))
  have HN5 := Lib.hid (HN4.out.alloc (.cells zeroC 31))
  have HM5 := Lib.hid (Blk.new w4 31 zeroC)
  have HW5 := Lib.hid (HW4.out.alloc HW4.out.size (.cells zeroC 31))
  have hne : w1.heap.size ≠ w4.heap.size := Nat.ne_of_lt HN4.out.lt
  clear hb4 hst2 hst3
  obtain ⟨w5, hst5⟩ : ∃ w5, w4.alloc (.cells zeroC 31) = w5 := ⟨_, rfl⟩
  rw [hst5] at HN5 HM5 HW5
  have HN6 := Lib.hid (HN5.out.farRow hne (rqC d.1))
  have HM6 := Lib.hid (HM5.out.row (rqC d.1))
  have HW6 := Lib.hid (below_setRow HW5.out (g := w4.heap.size) HW4.out.size (rqC d.1))
  obtain ⟨w6, hst6⟩ : ∃ w6, w5.setRow w4.heap.size (rqC d.1) = w6 := ⟨_, rfl⟩
  rw [hst6] at HN6 HM6 HW6
  have HE := reqEq_self d.1
  have hdd : (d.2 == d.2) = true := by simp
  clear hne
  go_wp2_with (first | (refine wpList_store_row rfl 31 (.tmp 5) (.tmp 15) rfl w4.heap.size (rqC d.1) rfl rfl 31 zeroC HM5.out (rq_size _) rfl (rq_one _) ?_) | (refine wpList_load_row rfl 31 (.tmp 3) rfl w1.heap.size rfl 31 (rqC d.1) (0, 0) _ HN6.out Try.underlying31 rfl (rq_size _) ?_) | (refine wpList_load_row rfl 31 (.tmp 5) rfl w4.heap.size rfl 31 (rqC d.1) (0, 0) _ HM6.out Try.underlying31 rfl (rq_size _) ?_))
  refine (known_ok w6).mono ?_
  rintro e w7 ⟨rfl, hb7⟩
  have HW7 := Lib.hid (HW6.out.trans (hb7.mono HW6.out.size))
  clear hb7
  go_wp2_with fail
  go_ret
  exact ⟨rfl, HW7.out⟩

theorem wireDecodes_lifted (os : Os) (started : os.Started) (H : Type) (enc : TypeId × Value → H) :
    ReturnsInHanded {} Try.checked os 3 .any (Rows.wireDecodesSpec.pre6 enc Try.prog Try.f3 Rows.wireDecodesRow.domain false) (Rows.wireDecodesSpec.post enc Try.prog Try.f3 false true false false) := by
  refine law_lifts (C := Try.checked) knob_none laid_out started (by kernel_rfl) Try.func3 Try.underlying4 rfl (fun t ht => ?_) rfl (fun ds hd => ?_)
    (ChangeSpec.witness6 (enc := enc) (C := Try.checked) false ⟨#[], #[.slice none 0 0], []⟩ 8 (by kernel_rfl) (by kernel_rfl) (by kernel_rfl) (by kernel_rfl)) ?_
  · have h : ([22] : List TypeId).all (fun t => Try.prog.readableRec t && decide (t < Try.prog.types.size)) = true := by kernel_rfl
    have hm : t ∈ ([22] : List TypeId) := by
      have : t ∈ ([22] : List TypeId) := ht
      exact this
    have := List.all_eq_true.1 h t hm
    simp only [Bool.and_eq_true, decide_eq_true_eq] at this
    exact this
  · match ds, hd with
    | [d1], _ => exact ⟨rfl, rfl, rfl⟩
  · intro W base args ds ps hval hA
    have hA' : DataW.TrodAll enc Try.prog W 0 (fun _ => true) true [22] args.toList ds ps := hA
    obtain ⟨v0, d0, rfl, rfl, h0⟩ := trodAll_one hA'
    obtain ⟨l, hl⟩ := open_bytes (hval 0 22 v0 rfl rfl) h0
    exact law_decodes l v0 W hl

theorem wireDecodes_holds : Rows.WireDecodesSaid :=
  OpenClaim.holds_of_wide 3 Try.f3 rfl rfl rfl rfl rfl rfl rfl ⟨rfl, rfl, rfl, rfl, rfl⟩ rfl rfl rfl rfl rfl (by kernel_rfl) Try.func3 (by kernel_rfl)
    (of_decide_eq_true (by kernel_rfl)) (by unfold Func.isWrapper; rw [if_neg (of_decide_eq_false (by kernel_rfl))]; exact ⟨rfl, rfl⟩)
    (fun os started H enc _ => wireDecodes_lifted os started H enc)
end Go.Proofs.Ytejmceihgndbhaa
