/-
  The law AskReads: any text is a line of a request, or refused. Conditions: none.
  AskReads, closed: any text is a line of a request, or refused. Conditions: the two tables of package utf8 are as the program's text lays them.
  PRINTED BY genclose.py.
-/
import Derived.Test.YtbfbcbhnknhgnaaGreatDoorRRead
import Derived.Test.YtbfbcbhnknhgnaaGreatDoorKnownA
import Derived.Test.YtbfbcbhnknhgnaaGreatDoorLaid
import Derived.Test.YtbfbcbhnknhgnaaGreatDoorOpenAns
namespace Go.Proofs.YtbfbcbhnknhgnaaGreatDoor
open Go.RowKit
attribute [local go_sem ↓] load_req stop_req

theorem reads_cases (l : List UInt8) : (∃ z, readQ l = (z, 0) ∧ RG l ∧ qT (splitL l) = z) ∨ (readQ l = (zeroR 0, 60) ∧ ¬ RG l) := by
  by_cases hr : RG l
  · left
    obtain ⟨q, hq⟩ : ∃ q, qT (splitL l) = q := ⟨_, rfl⟩
    have he := hr.enc
    have hli := hr.line
    rw [hq] at he hli
    refine ⟨q, ?_, hr, hq⟩
    rw [← hli]
    exact read_line he
  · right
    refine ⟨?_, hr⟩
    by_cases h0 : (readQ l).2 = 0
    · obtain ⟨h1, h2⟩ := read_wrote h0
      have := (read_all h1).1
      rw [h2] at this
      exact absurd this hr
    · unfold readQ at h0 ⊢
      split
      · rename_i hc
        rw [if_pos hc] at h0
        exact absurd rfl h0
      · rfl
theorem eqReqSelf (q : Req) : reqEq q q = true := by unfold reqEq; simp

set_option maxRecDepth 100000 in
set_option maxHeartbeats 8000000 in
theorem law_reads (l : List UInt8) (w : World) (hl : l.length ≤ 9223372036854775807) : Calls Tryz.prog 4 #[strV l] w (Holds w) := by
  by_cases h3 : (3000 : Int) < (l.length : Int)
  · go_enter Tryz.func4, Tryz.ntmps4
    go_wp2_with fail
    refine (aknown_ok _).mono ?_
    rintro e w1 ⟨rfl, hb⟩
    have HW := Lib.hid hb
    clear hb
    go_wp2_with fail
    go_ret
    exact ⟨rfl, HW.out⟩
  · have h3' : (l.length : Int) ≤ 3000 := by omega
    have HC := Lib.hid (reads_cases l)
    have HA := Lib.hid (fun w => Read_ok l w (by omega))
    have HB := Lib.hid (fun w => rread_ok l w (by omega))
    clear h3
    go_enter Tryz.func4, Tryz.ntmps4
    go_wp2_with fail
    refine (HA.out _).mono ?_
    rintro e w1 ⟨rfl, hb⟩
    have HW1 := Lib.hid hb
    clear hb
    obtain ⟨z, c, hzc⟩ : ∃ z c, readQ l = (z, c) := ⟨_, _, rfl⟩
    rw [hzc]
    have HZ := Lib.hid hzc
    clear hzc
    have hn1 := Blk.new w1 30 zeroC
    have hw1a := HW1.out.alloc HW1.out.size (.cells zeroC 30)
    obtain ⟨p, hp⟩ : ∃ p, w1.heap.size = p := ⟨_, rfl⟩
    have hpw : w.heap.size ≤ p := by rw [← hp]; exact HW1.out.size
    rw [hp] at hn1
    obtain ⟨wa, hwa⟩ : ∃ x, w1.alloc (.cells zeroC 30) = x := ⟨_, rfl⟩
    rw [hwa] at hn1 hw1a
    have HN1 := Lib.hid hn1
    have HB1 := Lib.hid (hn1.row (rqC z))
    have HW2 := Lib.hid (below_setRow hw1a (g := p) hpw (rqC z))
    obtain ⟨wb, hwb⟩ : ∃ x, wa.setRow p (rqC z) = x := ⟨_, rfl⟩
    rw [hwb] at HB1 HW2
    clear hn1 hw1a
    go_wp2_with (refine wpList_store_row rfl 30 (.tmp 3) (.tmp 14) rfl p (rqC z) rfl rfl 30 zeroC HN1.out (rq_size _) rfl (rq_one _) ?_)
    clear hwa hwb hp
    refine (HB.out wb).mono ?_
    rintro e w2 ⟨q, b, rfl, hb, hcase⟩
    have HB1 := Lib.hid (HB1.out.below hb HB1.out.lt)
    have HW3 := Lib.hid (HW2.out.trans (hb.mono HW2.out.size))
    have HCA := Lib.hid hcase
    clear hb hcase
    have hn2 := Blk.new w2 30 zeroC
    have hb1a := HB1.out.alloc (.cells zeroC 30)
    have hw3a := HW3.out.alloc HW3.out.size (.cells zeroC 30)
    have hlt := HB1.out.lt
    obtain ⟨r, hr⟩ : ∃ p, w2.heap.size = p := ⟨_, rfl⟩
    have hrw : w.heap.size ≤ r := by rw [← hr]; exact HW3.out.size
    rw [hr] at hn2 hlt
    obtain ⟨wc, hwc⟩ : ∃ x, w2.alloc (.cells zeroC 30) = x := ⟨_, rfl⟩
    rw [hwc] at hn2 hw3a hb1a
    have HN2 := Lib.hid hn2
    have HB2 := Lib.hid (hn2.row (rqC q))
    have HB1 := Lib.hid (hb1a.farRow (show p ≠ r by omega) (rqC q))
    have HW4 := Lib.hid (below_setRow hw3a (g := r) hrw (rqC q))
    obtain ⟨wd, hwd⟩ : ∃ x, wc.setRow r (rqC q) = x := ⟨_, rfl⟩
    rw [hwd] at HB1 HB2 HW4
    clear hn2 hw3a hb1a hlt
    rcases HCA.out with ⟨rfl, hrg, hq⟩ | ⟨rfl, hq, hrg⟩
    · have hzq : z = q ∧ c = 0 := by
        rcases HC.out with ⟨z', h1, _, h3⟩ | ⟨_, h2⟩
        · rw [HZ.out] at h1
          obtain ⟨rfl, rfl⟩ := Prod.mk.inj h1
          exact ⟨by rw [hq, h3], rfl⟩
        · exact absurd hrg h2
      obtain ⟨rfl, rfl⟩ := hzq
      have heq := eqReqSelf z
      have l3 := loadReq_row HB1.out
      have l5 := loadReq_row HB2.out
      have HRG := Lib.hid hrg
      clear hrg hq
      go_wp2_with (refine wpList_store_row rfl 30 (.tmp 5) (.tmp 19) rfl r (rqC z) rfl rfl 30 zeroC HN2.out (rq_size _) rfl (rq_one _) ?_)
      refine (aknown_ok _).mono ?_
      rintro e w5 ⟨rfl, hb⟩
      have HW5 := Lib.hid (HW4.out.trans (hb.mono HW4.out.size))
      clear hb
      go_wp2_with fail
      go_ret
      exact ⟨rfl, HW5.out⟩
    · have hzq : z = zeroR 0 ∧ c = 60 := by
        rcases HC.out with ⟨z', _, h2, _⟩ | ⟨h1, _⟩
        · exact absurd h2 hrg
        · rw [HZ.out] at h1
          exact Prod.mk.inj h1
      obtain ⟨rfl, rfl⟩ := hzq
      have heq := eqReqSelf (zeroR 0)
      have l3 := loadReq_row HB1.out
      have HRG := Lib.hid hrg
      clear hrg hq
      go_wp2_with (refine wpList_store_row rfl 30 (.tmp 5) (.tmp 19) rfl r (rqC q) rfl rfl 30 zeroC HN2.out (rq_size _) rfl (rq_one _) ?_)
      refine (aknown_ok _).mono ?_
      rintro e w5 ⟨rfl, hb⟩
      have HW5 := Lib.hid (HW4.out.trans (hb.mono HW4.out.size))
      clear hb
      go_wp2_with fail
      go_ret
      exact ⟨rfl, HW5.out⟩
end Go.Proofs.YtbfbcbhnknhgnaaGreatDoor

namespace Go.Proofs.YtbfbcbhnknhgnaaGreatDoor
open Go.RowKit Go.ChangeShapes Go.WideShapes Go.ChangeAt

theorem reads_reads (os : Os) {H : Type} (enc : TypeId × Value → H) : ∃ places, DataW.whole enc Tryz.prog ((laidWorld os).forCall (fun _ _ => 0) ⟨#[], #[.string ⟨#[]⟩], []⟩).memory Tryz.f4.params.toList Rows.askReadsSpec.vars false (#[.string ⟨#[]⟩] : Array Value).toList 8 = some ([.lit (.string [])], [], places) :=
  ⟨[], by kernel_rfl⟩

set_option maxRecDepth 100000 in
theorem reads_lifted (os : Os) (started : os.Started) (H : Type) (enc : TypeId × Value → H) (F : Stop.Interp) :
    ReturnsInHanded {} Tryz.checked os 4 .any ((OpenSpec.ofChange Rows.askReadsSpec).preRow enc Tryz.prog Tryz.f4 Rows.askReadsRow.domain false Rows.askReadsRow.laid) (((OpenSpec.ofChange Rows.askReadsSpec).at F).post enc Tryz.prog Tryz.f4 false true false false) := by
  obtain ⟨places, hx⟩ := reads_reads os enc
  refine law_lifts_row (C := Tryz.checked) (s := Rows.askReadsSpec) (kk := none) (laid := Rows.askReadsRow.laid) knob_none laid_out started (by kernel_rfl) Tryz.func4 Tryz.underlying4 rfl (fun t ht => ?_) rfl (fun ds hd => ?_)
    (witness_row_at (enc := enc) (C := Tryz.checked) false (laidWorld os) #[.string ⟨#[]⟩] rfl (by kernel_rfl) (by kernel_rfl) (by kernel_rfl)
      (OpenSpec.preRow_of_cond 8 hx (by kernel_rfl) (fun k hk => by cases hk) (by kernel_rfl) (laid_met os _))) ?_
  · have h : ([9] : List TypeId).all (fun t => Tryz.prog.readableRec t && decide (t < Tryz.prog.types.size)) = true := by kernel_rfl
    have hm : t ∈ ([9] : List TypeId) := by
      have : t ∈ ([9] : List TypeId) := ht
      simp only [List.mem_cons, List.not_mem_nil, or_false] at this ⊢
      rcases this with rfl <;> simp
    have := List.all_eq_true.1 h t hm
    simp only [Bool.and_eq_true, decide_eq_true_eq] at this
    exact this
  · match ds, hd with
    | [d0], _ => exact ⟨rfl, rfl, rfl⟩
  · intro W base args ds ps hval hA hk hwt
    have hA' : DataW.TrodAll enc Tryz.prog W 0 (fun _ => true) true [9] args.toList ds ps := hA
    obtain ⟨v0, d0, rfl, rfl, h0⟩ := trodAll_one hA'
    obtain ⟨s, rfl, rfl⟩ := open_strd (hval 0 9 v0 rfl rfl) h0
    exact law_reads s.data.toList W (str_fits (j := 0) rfl rfl hwt)

theorem reads_said : Rows.AskReadsSaid :=
  OpenClaim.holds_of_cond 4 Tryz.f4 rfl rfl rfl rfl rfl rfl rfl ⟨rfl, rfl, rfl, rfl, rfl⟩ rfl rfl rfl rfl rfl (by kernel_rfl) Tryz.func4 (by kernel_rfl)
    (of_decide_eq_true (by kernel_rfl)) (by unfold Func.isWrapper; first | (rw [if_pos (by decide +kernel)]; kernel_rfl) | (rw [if_neg (by decide +kernel)]; exact ⟨rfl, rfl⟩))
    (fun os started H enc _ F => by rw [OpenClaim.pre_eq_preRow]; exact reads_lifted os started H enc F)

theorem reads_plain (f : FuncId) (fn : Func) (hf : Tryz.pinned.checked.prog.funcNamed "paravent/paraventlaw26.AskReads" = some f) (hfn : Tryz.pinned.checked.prog.funcs[f]? = some fn) :
    false = Tryz.pinned.checked.prog.looks [] ∧ ∀ (j : Nat) t, fn.params[j]? = some t → Tryz.pinned.checked.prog.wantsStandIn t = false := by
  obtain rfl : f = 4 := Option.some.inj ((show Tryz.prog.funcNamed "paravent/paraventlaw26.AskReads" = some 4 by kernel_rfl).symm.trans hf) |>.symm
  obtain rfl : fn = Tryz.f4 := (Option.some.inj (Tryz.func4.symm.trans hfn)).symm
  refine ⟨by kernel_rfl, fun j t ht => ?_⟩
  have h : Tryz.f4.params.toList.all (fun t => !Tryz.prog.wantsStandIn t) = true := by kernel_rfl
  have := List.all_eq_true.1 h t (by simpa using Array.mem_of_getElem? ht)
  show Tryz.prog.wantsStandIn t = false
  simpa using this

/-- THE CARD. -/
theorem askReads_holds : Rows.AskReadsCardSaid :=
  Claim7.holds_tied_plain_at .later [] _ _ _ _ reads_said (fun _ h => by cases h) (by kernel_rfl) (fun _ h => by cases h) askReads_row_tie rfl ⟨rfl, rfl⟩ (by kernel_rfl) rfl reads_plain (by kernel_rfl)
end Go.Proofs.YtbfbcbhnknhgnaaGreatDoor
