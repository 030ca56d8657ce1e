/-
  The law AskLines: any request has its line, or may not be. Conditions: the request's numbers are machine numbers.
  AskLines, closed: any request has its line, or may not be. Conditions: the two tables of package utf8 are as the program's text lays them.
  PRINTED BY genclose.py.
-/
import Derived.Test.YtbfbcbhnknhgnaaGreatDoorRefLine
import Derived.Test.YtbfbcbhnknhgnaaGreatDoorLawEnc
import Derived.Test.YtbfbcbhnknhgnaaGreatDoorKnownA
import Derived.Test.YtbfbcbhnknhgnaaGreatDoorLaid
import Derived.Test.YtbfbcbhnknhgnaaGreatDoorOpenIb
namespace Go.Proofs.YtbfbcbhnknhgnaaGreatDoor
open Go.RowKit
attribute [local go_sem ↓] load_req stop_req

theorem lineE_ok2 {q : Req} (h : encOk q = true) : lineE q = 0 := by unfold lineE; rw [if_pos h]
theorem lineE_no2 {q : Req} (h : encOk q = false) : lineE q = 1 := by unfold lineE; rw [h]; rfl
theorem lineT_ok2 {q : Req} (h : encOk q = true) : lineT q = lineQ q := by unfold lineT; rw [if_pos h]
theorem lineT_no2 {q : Req} (h : encOk q = false) : lineT q = [] := by unfold lineT; rw [h]; rfl
set_option maxRecDepth 100000 in
set_option maxHeartbeats 4000000 in
theorem law_lines (q : Req) (hq : q.fits) (hib : q.ib) (w : World) : Calls Tryz.prog 3 #[.agg (rqC q)] w (Holds w) := by
  have HQ := Lib.hid hq
  have HIB := Lib.hid hib
  have hr := RQ.new w q
  obtain ⟨w1, hst1⟩ : ∃ w1, w.alloc (.cells (rqC q) 30) = w1 := ⟨_, rfl⟩
  rw [hst1] at hr
  have HR1 := Lib.hid hr
  clear hr hq hib
  have l0 := loadReq_row HR1.out.b0
  go_enter Tryz.func3, Tryz.ntmps3
  go_wp2_with fail
  refine (Line_ok q w1 HQ.out).mono ?_
  rintro e w2 ⟨rfl, hb2⟩
  have HR2 := Lib.hid (HR1.out.below (hb2.mono (Nat.le_refl _)))
  clear hb2 l0
  have l0 := loadReq_row HR2.out.b0
  go_wp2_with fail
  refine (rbytes_ok q _ HQ.out HIB.out).mono ?_
  rintro e w3 ⟨v', l', rfl, hs', h0', hb3⟩
  have HR3 := Lib.hid (HR2.out.below hb3)
  have HOK := Lib.hid (enc_rb q).1
  clear hb3 hs' h0' l0
  have l0 := loadReq_row HR3.out.b0
  rw [← HOK.out]
  cases hoq : encOk q
  · rw [lineE_no2 hoq, lineT_no2 hoq]
    clear hoq HOK
    go_wp2_with fail
    refine (aknown_ok _).mono ?_
    rintro e w4 ⟨rfl, hb4⟩
    have HR4 := Lib.hid (HR3.out.below hb4)
    clear hb4
    go_wp2_with fail
    go_ret
    exact ⟨rfl, HR4.out.bel⟩
  · rw [lineE_ok2 hoq, lineT_ok2 hoq]
    obtain ⟨hop, htx⟩ := enc_op hoq
    have HL := Lib.hid (fun w => rline_ok q w hop HQ.out htx)
    rw [rline_eq q hop] at HL
    obtain ⟨x, hx⟩ : ∃ x, lineQ q = x := ⟨_, rfl⟩
    rw [hx] at HL ⊢
    clear hoq HOK hop htx hx
    go_wp2_with fail
    refine (HL.out _).mono ?_
    rintro e w4 ⟨rfl, hb4⟩
    have HR4 := Lib.hid (HR3.out.below hb4)
    clear hb4
    go_wp2_with fail
    refine (aknown_ok _).mono ?_
    rintro e w5 ⟨rfl, hb5⟩
    have HR5 := Lib.hid (HR4.out.below hb5)
    clear hb5
    go_wp2_with fail
    go_ret
    exact ⟨rfl, HR5.out.bel⟩
end Go.Proofs.YtbfbcbhnknhgnaaGreatDoor

namespace Go.Proofs.YtbfbcbhnknhgnaaGreatDoor
open Go.RowKit Go.ChangeShapes Go.WideShapes Go.ChangeAt

theorem lines_reads (os : Os) {H : Type} (enc : TypeId × Value → H) : ∃ places, DataW.whole enc Tryz.prog ((laidWorld os).forCall (fun _ _ => 0) ⟨#[], #[.agg #[.int .i64 0, .int .i64 0, .int .i64 0, .int .u64 0, .int .i64 0, .int .i64 0, .int .i64 0, .int .i64 0, .int .i64 0, .string ⟨#[]⟩, .int .i64 0, .int .i64 0, .int .i64 0, .int .i64 0, .int .i64 0, .int .i64 0, .int .i64 0, .int .u64 0, .int .i64 0, .int .u64 0, .int .i64 0, .int .i64 0, .int .i64 0, .int .i64 0]], []⟩).memory Tryz.f3.params.toList Rows.askLinesSpec.vars false (#[.agg #[.int .i64 0, .int .i64 0, .int .i64 0, .int .u64 0, .int .i64 0, .int .i64 0, .int .i64 0, .int .i64 0, .int .i64 0, .string ⟨#[]⟩, .int .i64 0, .int .i64 0, .int .i64 0, .int .i64 0, .int .i64 0, .int .i64 0, .int .i64 0, .int .u64 0, .int .i64 0, .int .u64 0, .int .i64 0, .int .i64 0, .int .i64 0, .int .i64 0]] : Array Value).toList 8 = some ([.agg [.lit (.int .i64 0), .lit (.int .i64 0), .lit (.int .i64 0), .lit (.int .u64 0), .lit (.int .i64 0), .lit (.int .i64 0), .lit (.int .i64 0), .lit (.int .i64 0), .lit (.int .i64 0), .lit (.string []), .lit (.int .i64 0), .lit (.int .i64 0), .agg [.lit (.int .i64 0), .lit (.int .i64 0), .lit (.int .i64 0), .lit (.int .i64 0)], .lit (.int .i64 0), .lit (.int .u64 0), .agg [.lit (.int .i64 0), .lit (.int .u64 0)], .agg [.lit (.int .i64 0), .lit (.int .i64 0)], .lit (.int .i64 0), .lit (.int .i64 0)]], [], places) :=
  ⟨[], by kernel_rfl⟩

set_option maxRecDepth 100000 in
theorem lines_lifted (os : Os) (started : os.Started) (H : Type) (enc : TypeId × Value → H) (F : Stop.Interp) :
    ReturnsInHanded {} Tryz.checked os 3 .any ((OpenSpec.ofChange Rows.askLinesSpec).preRow enc Tryz.prog Tryz.f3 Rows.askLinesRow.domain false Rows.askLinesRow.laid) (((OpenSpec.ofChange Rows.askLinesSpec).at F).post enc Tryz.prog Tryz.f3 false true false false) := by
  obtain ⟨places, hx⟩ := lines_reads os enc
  refine law_lifts_row (C := Tryz.checked) (s := Rows.askLinesSpec) (kk := none) (laid := Rows.askLinesRow.laid) knob_none laid_out started (by kernel_rfl) Tryz.func3 Tryz.underlying4 rfl (fun t ht => ?_) rfl (fun ds hd => ?_)
    (witness_row_at (enc := enc) (C := Tryz.checked) false (laidWorld os) #[.agg #[.int .i64 0, .int .i64 0, .int .i64 0, .int .u64 0, .int .i64 0, .int .i64 0, .int .i64 0, .int .i64 0, .int .i64 0, .string ⟨#[]⟩, .int .i64 0, .int .i64 0, .int .i64 0, .int .i64 0, .int .i64 0, .int .i64 0, .int .i64 0, .int .u64 0, .int .i64 0, .int .u64 0, .int .i64 0, .int .i64 0, .int .i64 0, .int .i64 0]] rfl (by kernel_rfl) (by kernel_rfl) (by kernel_rfl)
      (OpenSpec.preRow_of_cond 8 hx (by kernel_rfl) (fun k hk => by cases hk) (by kernel_rfl) (laid_met os _))) ?_
  · have h : ([30] : List TypeId).all (fun t => Tryz.prog.readableRec t && decide (t < Tryz.prog.types.size)) = true := by kernel_rfl
    have hm : t ∈ ([30] : List TypeId) := by
      have : t ∈ ([30] : List TypeId) := ht
      simp only [List.mem_cons, List.not_mem_nil, or_false] at this ⊢
      rcases this with rfl <;> simp
    have := List.all_eq_true.1 h t hm
    simp only [Bool.and_eq_true, decide_eq_true_eq] at this
    exact this
  · match ds, hd with
    | [d0], _ => exact ⟨rfl, rfl, rfl⟩
  · intro W base args ds ps hval hA hk hwt
    have hA' : DataW.TrodAll enc Tryz.prog W 0 (fun _ => true) true [30] args.toList ds ps := hA
    obtain ⟨v0, d0, rfl, rfl, h0⟩ := trodAll_one hA'
    obtain ⟨q, rfl, hok, hib, hm⟩ := open_req_ib (hval 0 30 v0 rfl rfl) h0
    exact law_lines q (req_fits hok (j := 0) (d := d0) rfl rfl hm hwt) hib W

theorem lines_said : Rows.AskLinesSaid :=
  OpenClaim.holds_of_cond 3 Tryz.f3 rfl rfl rfl rfl rfl rfl rfl ⟨rfl, rfl, rfl, rfl, rfl⟩ rfl rfl rfl rfl rfl (by kernel_rfl) Tryz.func3 (by kernel_rfl)
    (of_decide_eq_true (by kernel_rfl)) (by unfold Func.isWrapper; first | (rw [if_pos (by decide +kernel)]; kernel_rfl) | (rw [if_neg (by decide +kernel)]; exact ⟨rfl, rfl⟩))
    (fun os started H enc _ F => by rw [OpenClaim.pre_eq_preRow]; exact lines_lifted os started H enc F)

theorem lines_plain (f : FuncId) (fn : Func) (hf : Tryz.pinned.checked.prog.funcNamed "paravent/paraventlaw26.AskLines" = some f) (hfn : Tryz.pinned.checked.prog.funcs[f]? = some fn) :
    false = Tryz.pinned.checked.prog.looks [] ∧ ∀ (j : Nat) t, fn.params[j]? = some t → Tryz.pinned.checked.prog.wantsStandIn t = false := by
  obtain rfl : f = 3 := Option.some.inj ((show Tryz.prog.funcNamed "paravent/paraventlaw26.AskLines" = some 3 by kernel_rfl).symm.trans hf) |>.symm
  obtain rfl : fn = Tryz.f3 := (Option.some.inj (Tryz.func3.symm.trans hfn)).symm
  refine ⟨by kernel_rfl, fun j t ht => ?_⟩
  have h : Tryz.f3.params.toList.all (fun t => !Tryz.prog.wantsStandIn t) = true := by kernel_rfl
  have := List.all_eq_true.1 h t (by simpa using Array.mem_of_getElem? ht)
  show Tryz.prog.wantsStandIn t = false
  simpa using this

/-- THE CARD. -/
theorem askLines_holds : Rows.AskLinesCardSaid :=
  Claim7.holds_tied_plain_at .later [] _ _ _ _ lines_said (fun _ h => by cases h) (by kernel_rfl) (fun _ h => by cases h) askLines_row_tie rfl ⟨rfl, rfl⟩ (by kernel_rfl) rfl lines_plain (by kernel_rfl)
end Go.Proofs.YtbfbcbhnknhgnaaGreatDoor
