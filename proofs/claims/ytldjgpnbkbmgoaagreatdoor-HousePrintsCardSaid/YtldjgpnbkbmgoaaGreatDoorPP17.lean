/-
  HousePrints, closed: any job has its text, or may not be. Conditions: the two tables of package utf8 are as the program's text lays them. PRINTED BY genclose.py.
-/
import Derived.Test.YtldjgpnbkbmgoaaGreatDoorPP15
import Derived.Test.YtldjgpnbkbmgoaaGreatDoorPP16
import Derived.Test.YtldjgpnbkbmgoaaGreatDoorPP14
import Derived.Test.YtldjgpnbkbmgoaaGreatDoorHClPrints
set_option linter.unusedSimpArgs false
set_option linter.unusedVariables false
set_option maxRecDepth 100000
set_option maxHeartbeats 8000000
namespace Go.Proofs.YtldjgpnbkbmgoaaGreatDoor
open Go.RowKit Go.ChangeShapes Go.WideShapes Go.ChangeAt
theorem prints_reads (os : Os) {H : Type} (enc : TypeId × Value → H) : ∃ places, DataW.whole enc Tryz.prog ((laidWorld os).forCall (fun _ _ => 0) ⟨#[], #[.agg #[.slice none 0 0, .slice none 0 0]], []⟩).memory Tryz.f4.params.toList Rows.housePrintsSpec.vars false (#[.agg #[.slice none 0 0, .slice none 0 0]] : Array Value).toList 8 = some ([.agg [.nil, .nil]], [], places) :=
  ⟨[], by kernel_rfl⟩
theorem prints_lifted (os : Os) (started : os.Started) (H : Type) (enc : TypeId × Value → H) (F : Stop.Interp) :
    ReturnsInHanded {} Tryz.checked os 4 .any ((OpenSpec.ofChange Rows.housePrintsSpec).preRow enc Tryz.prog Tryz.f4 Rows.housePrintsRow.domain false Rows.housePrintsRow.laid) (((OpenSpec.ofChange Rows.housePrintsSpec).at F).post enc Tryz.prog Tryz.f4 false true false false) := by
  obtain ⟨places, hx⟩ := prints_reads os enc
  refine law_lifts_row (C := Tryz.checked) (s := Rows.housePrintsSpec) (kk := none) (laid := Rows.housePrintsRow.laid) knob_none laid_out started housePrints_noInit Tryz.func4 Tryz.underlying4 rfl (fun t ht => ?_) rfl (fun ds hd => ?_)
    (witness_row_at (enc := enc) (C := Tryz.checked) false (laidWorld os) #[.agg #[.slice none 0 0, .slice none 0 0]] rfl (by kernel_rfl) (by kernel_rfl) (by kernel_rfl)
      (OpenSpec.preRow_of_cond 8 hx (by kernel_rfl) (fun k hk => by cases hk) (by kernel_rfl) (laid_met os _))) ?_
  · have h : ([26] : List TypeId).all (fun t => Tryz.prog.readableRec t && decide (t < Tryz.prog.types.size)) = true := by kernel_rfl
    have hm : t ∈ ([26] : List TypeId) := by
      have : t ∈ ([26] : List TypeId) := ht
      simp only [List.mem_cons, List.not_mem_nil, or_false] at this ⊢
      rcases this with rfl <;> simp
    have := List.all_eq_true.1 h t hm
    simp only [Bool.and_eq_true, decide_eq_true_eq] at this
    exact this
  · match ds, hd with
    | [d0], _ => exact ⟨rfl, rfl, rfl⟩
  · intro W base args ds ps hval hA hk hwt
    have hA' : DataW.TrodAll enc Tryz.prog W 0 (fun _ => true) true [26] args.toList ds ps := hA
    obtain ⟨v0, d0, rfl, rfl, h0⟩ := trodAll_one hA'
    obtain ⟨vs, vi, ss, rs, rfl, hj⟩ := open_job (hval 0 26 v0 rfl rfl) h0 (fun n hn => by
      have := List.all_eq_true.1 hwt n (DataW.weights_mem_each (j := 0) (t := 26) rfl rfl n hn)
      simpa using this)
    exact law_prints known29_ok vs vi ss rs W hj
theorem prints_said : Rows.HousePrintsSaid :=
  OpenClaim.holds_of_cond 4 Tryz.f4 rfl rfl rfl rfl rfl rfl rfl ⟨rfl, rfl, rfl, rfl, rfl⟩ rfl rfl rfl rfl rfl housePrints_named Tryz.func4 housePrints_closed
    (of_decide_eq_true (by kernel_rfl)) (by unfold Func.isWrapper; first | (rw [if_pos (by decide +kernel)]; kernel_rfl) | (rw [if_neg (by decide +kernel)]; exact ⟨rfl, rfl⟩))
    (fun os started H enc _ F => by rw [OpenClaim.pre_eq_preRow]; exact prints_lifted os started H enc F)
theorem prints_plain (f : FuncId) (fn : Func) (hf : Tryz.pinned.checked.prog.funcNamed "paravent/paraventlaw29.HousePrints" = some f) (hfn : Tryz.pinned.checked.prog.funcs[f]? = some fn) :
    true = Tryz.pinned.checked.prog.looks [] ∧ ∀ (j : Nat) t, fn.params[j]? = some t → Tryz.pinned.checked.prog.wantsStandIn t = false := by
  obtain rfl : f = 4 := Option.some.inj ((show Tryz.prog.funcNamed "paravent/paraventlaw29.HousePrints" = some 4 by kernel_rfl).symm.trans hf) |>.symm
  obtain rfl : fn = Tryz.f4 := (Option.some.inj (Tryz.func4.symm.trans hfn)).symm
  refine ⟨by kernel_rfl, fun j t ht => ?_⟩
  have h : Tryz.f4.params.toList.all (fun t => !Tryz.prog.wantsStandIn t) = true := by kernel_rfl
  have := List.all_eq_true.1 h t (by simpa using Array.mem_of_getElem? ht)
  show Tryz.prog.wantsStandIn t = false
  simpa using this
theorem housePrints_holds : Rows.HousePrintsCardSaid :=
  Claim7.holds_tied_plain_at .later [] _ _ _ _ prints_said (fun _ h => by cases h) (by kernel_rfl) (fun _ h => by cases h) housePrints_row_tie rfl ⟨rfl, rfl⟩ (by kernel_rfl) rfl prints_plain (goes_none seat_goes rfl)
end Go.Proofs.YtldjgpnbkbmgoaaGreatDoor

