/-
  The law AskAnswers. Conditions: as each states.
  AskAnswers, closed: any answer has its line, and is read of it, or may not be written. Conditions: the two tables of package utf8 are as the program's text lays them.
  PRINTED BY genclose.py.
-/
import Derived.Test.YtbfbcbhnknhgnaaDoorLawTold
import Derived.Test.YtbfbcbhnknhgnaaDoorLaid
import Derived.Test.YtbfbcbhnknhgnaaDoorOpenAns
namespace Go.Proofs.YtbfbcbhnknhgnaaDoor
open Go.RowKit

theorem few_of {a : Ans} (h : fewB a = true) : a.seen.length ≤ 70 ∧ a.events.length ≤ 70 := by
  unfold fewB at h
  simp only [Bool.and_eq_true, decide_eq_true_eq] at h
  omega
theorem ansT_not {a : Ans} (h : mayB a = false) : ansT a = [] ∧ ansE a = 1 := by
  unfold ansT ansE
  rw [h]
  exact ⟨rfl, rfl⟩
theorem ansE_is {a : Ans} (h : mayB a = true) : ansE a = 0 := by unfold ansE; rw [if_pos h]
set_option maxRecDepth 100000 in
set_option maxHeartbeats 4000000 in
theorem law_answers (a : Ans) (sv ev : Value) (w : World) (hs : Sl snC w w.heap.size sv a.seen) (he : Sl evC w w.heap.size ev a.events) (hsec : a.secret < 18446744073709551616) : Calls Tryd.prog 6 #[.agg (anC a sv ev)] w (Holds w) := by
  have HS := Lib.hid hs
  have HE := Lib.hid he
  have HSEC := Lib.hid hsec
  have HA := Lib.hid (AB.new w (anC a sv ev))
  obtain ⟨w0, hst0⟩ : ∃ x, w.alloc (.cells (anC a sv ev) 48) = x := ⟨_, rfl⟩
  rw [hst0] at HA
  clear hs he hsec
  go_enter Tryd.func6, Tryd.ntmps6
  go_wp2_with (refine wpList_load_row rfl 48 (.tmp 1) rfl w.heap.size rfl 48 (anC a sv ev) (0, 0) _ HA.out.blk Tryd.underlying48 rfl (an_size _ _ _) ?_)
  refine (few_ok _ a sv ev (HA.out.sl HS.out) (HA.out.sl HE.out)).mono ?_
  rintro e w1 ⟨rfl, hb⟩
  have HA := Lib.hid (HA.out.below hb)
  clear hb hst0
  cases hf : fewB a
  · clear hf
    go_wp2_with fail
    refine (aknown_ok _).mono ?_
    rintro e w2 ⟨rfl, hb⟩
    have HA := Lib.hid (HA.out.below hb)
    clear hb
    go_wp2_with fail
    go_ret
    exact ⟨rfl, HA.out.bel⟩
  · have HF := Lib.hid (few_of hf)
    clear hf
    go_wp2_with (refine wpList_load_row rfl 48 (.tmp 1) rfl w.heap.size rfl 48 (anC a sv ev) (0, 0) _ HA.out.blk Tryd.underlying48 rfl (an_size _ _ _) ?_)
    refine (Answer_ok _ a sv ev (HA.out.sl HS.out) (HA.out.sl HE.out) (by have := HF.out.1; omega) (by have := HF.out.2; omega) HSEC.out).mono ?_
    rintro e w2 ⟨rfl, hb⟩
    have HA := Lib.hid (HA.out.below hb)
    clear hb
    go_wp2_with (refine wpList_load_row rfl 48 (.tmp 1) rfl w.heap.size rfl 48 (anC a sv ev) (0, 0) _ HA.out.blk Tryd.underlying48 rfl (an_size _ _ _) ?_)
    refine (rmay_ok _ a sv ev (HA.out.sl HS.out) (HA.out.sl HE.out) (by have := HF.out.1; omega) (by have := HF.out.2; omega)).mono ?_
    rintro e w3 ⟨rfl, hb⟩
    have HA := Lib.hid (HA.out.below hb)
    clear hb
    rw [mayR_eq]
    cases hm : mayB a
    · rw [(ansT_not hm).1, (ansT_not hm).2]
      clear hm
      go_wp2_with fail
      refine (aknown_ok _).mono ?_
      rintro e w4 ⟨rfl, hb⟩
      have HA := Lib.hid (HA.out.below hb)
      clear hb
      go_wp2_with fail
      go_ret
      exact ⟨rfl, HA.out.bel⟩
    · have HM := Lib.hid hm
      have HT := Lib.hid (ransT_eq a hm)
      have HR := Lib.hid (read_ans a hm HSEC.out)
      have HL := Lib.hid (ans_len a HF.out.1 HF.out.2)
      rw [ansE_is hm]
      obtain ⟨l, hl⟩ : ∃ l, ansT a = l := ⟨_, rfl⟩
      rw [hl] at HT HR HL ⊢
      clear hm hl
      go_wp2_with fail
      refine (ReadAnswer_ok l _ HL.out).mono ?_
      rintro e w4 ⟨sv', ev', rfl, hs', he', hb⟩
      have HA := Lib.hid (HA.out.below hb)
      rw [HR.out] at hs' he' ⊢
      have HS' := Lib.hid hs'
      have HE' := Lib.hid he'
      clear hs' he' hb
      have HN := Lib.hid (Blk.new w4 48 zeroAC)
      obtain ⟨wa, hwa⟩ : ∃ x, w4.alloc (.cells zeroAC 48) = x := ⟨_, rfl⟩
      rw [hwa] at HN
      have hwan : w4.alloc (.cells #[.int .i64 0, .int .u64 0, .int .i64 0, .int .i64 0, .int .i64 0, .int .i64 0, .int .i64 0, .int .i64 0, .int .i64 0, .int .i64 0, .slice none 0 0, .slice none 0 0] 48) = wa := hwa
      obtain ⟨wb, hwb⟩ : ∃ x, wa.setRow w4.heap.size (anC a sv' ev') = x := ⟨_, rfl⟩
      have HB := Lib.hid (AB.stored hwa hwb)
      have HA := Lib.hid (HA.out.below HB.out.bel)
      clear hwa
      go_wp2_with (first
        | (refine wpList_store_row rfl 48 (.tmp 5) (.tmp 31) rfl w4.heap.size (anC a sv' ev') rfl rfl 48 zeroAC HN.out (an_size _ _ _) rfl (an_one HS'.out.isl HE'.out.isl) ?_)
        | (refine load_rowG (by kernel_rfl) 48 (.tmp 1) rfl w.heap.size rfl 48 (anC a sv ev) (0, 0) _ HA.out.blk Tryd.underlying48 rfl (an_size _ _ _) ?_))
      clear hwan hwb HN
      refine (rans_ok _ a sv ev (HA.out.sl HS.out) (HA.out.sl HE.out) (by have := HF.out.1; omega) (by have := HF.out.2; omega) (may_status HM.out) HSEC.out).mono ?_
      rintro e w5 ⟨rfl, hb⟩
      have HA := Lib.hid (HA.out.below hb)
      have HB := Lib.hid (HB.out.below hb)
      clear hb
      rw [HT.out]
      go_wp2_with (first
        | (refine load_rowG (by kernel_rfl) 48 (.tmp 1) rfl w.heap.size rfl 48 (anC a sv ev) (0, 0) _ HA.out.blk Tryd.underlying48 rfl (an_size _ _ _) ?_)
        | (refine load_rowG (by kernel_rfl) 48 (.tmp 5) rfl w4.heap.size rfl 48 (anC a sv' ev') (0, 0) _ HB.out.blk Tryd.underlying48 rfl (an_size _ _ _) ?_))
      refine (ransame_ok _ a sv ev sv' ev' (HA.out.sl HS.out) (HA.out.sl HE.out) (HB.out.sl HS'.out) (HB.out.sl HE'.out)).mono ?_
      rintro e w6 ⟨rfl, hb⟩
      have HA := Lib.hid (HA.out.below hb)
      clear hb
      go_wp2_with fail
      refine (aknown_ok _).mono ?_
      rintro e w7 ⟨rfl, hb⟩
      have HA := Lib.hid (HA.out.below hb)
      clear hb
      go_wp2_with fail
      go_ret
      exact ⟨rfl, HA.out.bel⟩
end Go.Proofs.YtbfbcbhnknhgnaaDoor

namespace Go.Proofs.YtbfbcbhnknhgnaaDoor
open Go.RowKit Go.ChangeShapes Go.WideShapes Go.ChangeAt

theorem answers_reads (os : Os) {H : Type} (enc : TypeId × Value → H) : ∃ places, DataW.whole enc Tryd.prog ((laidWorld os).forCall (fun _ _ => 0) ⟨#[], #[.agg #[.int .i64 0, .int .u64 0, .int .i64 0, .int .i64 0, .int .i64 0, .int .i64 0, .int .i64 0, .int .i64 0, .int .i64 0, .int .i64 0, .slice none 0 0, .slice none 0 0]], []⟩).memory Tryd.f6.params.toList Rows.askAnswersSpec.vars false (#[.agg #[.int .i64 0, .int .u64 0, .int .i64 0, .int .i64 0, .int .i64 0, .int .i64 0, .int .i64 0, .int .i64 0, .int .i64 0, .int .i64 0, .slice none 0 0, .slice none 0 0]] : Array Value).toList 8 = some ([.agg [.lit (.int .i64 0), .lit (.int .u64 0), .agg [.lit (.int .i64 0), .agg [.lit (.int .i64 0), .lit (.int .i64 0)], .lit (.int .i64 0)], .agg [.lit (.int .i64 0), .lit (.int .i64 0), .lit (.int .i64 0), .lit (.int .i64 0)], .nil, .nil]], [], places) :=
  ⟨[], by kernel_rfl⟩

set_option maxRecDepth 100000 in
theorem answers_lifted (os : Os) (started : os.Started) (H : Type) (enc : TypeId × Value → H) (F : Stop.Interp) :
    ReturnsInHanded {} Tryd.checked os 6 .any ((OpenSpec.ofChange Rows.askAnswersSpec).preRow enc Tryd.prog Tryd.f6 Rows.askAnswersRow.domain false Rows.askAnswersRow.laid) (((OpenSpec.ofChange Rows.askAnswersSpec).at F).post enc Tryd.prog Tryd.f6 false true false false) := by
  obtain ⟨places, hx⟩ := answers_reads os enc
  refine law_lifts_row (C := Tryd.checked) (s := Rows.askAnswersSpec) (kk := none) (laid := Rows.askAnswersRow.laid) knob_none laid_out started (by kernel_rfl) Tryd.func6 Tryd.underlying4 rfl (fun t ht => ?_) rfl (fun ds hd => ?_)
    (witness_row_at (enc := enc) (C := Tryd.checked) false (laidWorld os) #[.agg #[.int .i64 0, .int .u64 0, .int .i64 0, .int .i64 0, .int .i64 0, .int .i64 0, .int .i64 0, .int .i64 0, .int .i64 0, .int .i64 0, .slice none 0 0, .slice none 0 0]] rfl (by kernel_rfl) (by kernel_rfl) (by kernel_rfl)
      (OpenSpec.preRow_of_cond 8 hx (by kernel_rfl) (fun k hk => by cases hk) (by kernel_rfl) (laid_met os _))) ?_
  · have h : ([48] : List TypeId).all (fun t => Tryd.prog.readableRec t && decide (t < Tryd.prog.types.size)) = true := by kernel_rfl
    have hm : t ∈ ([48] : List TypeId) := by
      have : t ∈ ([48] : List TypeId) := ht
      simp only [List.mem_cons, List.not_mem_nil, or_false] at this ⊢
      rcases this with rfl <;> simp
    have := List.all_eq_true.1 h t hm
    simp only [Bool.and_eq_true, decide_eq_true_eq] at this
    exact this
  · match ds, hd with
    | [d0], _ => exact ⟨rfl, rfl, rfl⟩
  · intro W base args ds ps hval hA hk hwt
    have hA' : DataW.TrodAll enc Tryd.prog W 0 (fun _ => true) true [48] args.toList ds ps := hA
    obtain ⟨v0, d0, rfl, rfl, h0⟩ := trodAll_one hA'
    obtain ⟨a, sv, ev, rfl, hs, he, hsec⟩ := open_ans (hval 0 48 v0 rfl rfl) h0
    exact law_answers a sv ev W hs he hsec

theorem answers_said : Rows.AskAnswersSaid :=
  OpenClaim.holds_of_cond 6 Tryd.f6 rfl rfl rfl rfl rfl rfl rfl ⟨rfl, rfl, rfl, rfl, rfl⟩ rfl rfl rfl rfl rfl (by kernel_rfl) Tryd.func6 (by kernel_rfl)
    (of_decide_eq_true (by kernel_rfl)) (by unfold Func.isWrapper; first | (rw [if_pos (by decide +kernel)]; kernel_rfl) | (rw [if_neg (by decide +kernel)]; exact ⟨rfl, rfl⟩))
    (fun os started H enc _ F => by rw [OpenClaim.pre_eq_preRow]; exact answers_lifted os started H enc F)

theorem answers_plain (f : FuncId) (fn : Func) (hf : Tryd.pinned.checked.prog.funcNamed "paravent/paraventlaw26.AskAnswers" = some f) (hfn : Tryd.pinned.checked.prog.funcs[f]? = some fn) :
    false = Tryd.pinned.checked.prog.looks [] ∧ ∀ (j : Nat) t, fn.params[j]? = some t → Tryd.pinned.checked.prog.wantsStandIn t = false := by
  obtain rfl : f = 6 := Option.some.inj ((show Tryd.prog.funcNamed "paravent/paraventlaw26.AskAnswers" = some 6 by kernel_rfl).symm.trans hf) |>.symm
  obtain rfl : fn = Tryd.f6 := (Option.some.inj (Tryd.func6.symm.trans hfn)).symm
  refine ⟨by kernel_rfl, fun j t ht => ?_⟩
  have h : Tryd.f6.params.toList.all (fun t => !Tryd.prog.wantsStandIn t) = true := by kernel_rfl
  have := List.all_eq_true.1 h t (by simpa using Array.mem_of_getElem? ht)
  show Tryd.prog.wantsStandIn t = false
  simpa using this

/-- THE CARD. -/
theorem askAnswers_holds : Rows.AskAnswersCardSaid :=
  Claim7.holds_tied_plain_at .later [] _ _ _ _ answers_said (fun _ h => by cases h) (by kernel_rfl) (fun _ h => by cases h) askAnswers_row_tie rfl ⟨rfl, rfl⟩ (by kernel_rfl) rfl answers_plain (by kernel_rfl)
end Go.Proofs.YtbfbcbhnknhgnaaDoor
