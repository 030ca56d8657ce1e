/-
  AskTold, closed: any text is a line of an answer, written as it stood, or refused. Conditions: the two tables of package utf8 are as the program's text lays them.
  PRINTED BY genclose.py.
-/
import Derived.Test.YtbfbcbhnknhgnaaDoorLawTold
import Derived.Test.YtbfbcbhnknhgnaaDoorLaid
import Derived.Test.YtbfbcbhnknhgnaaDoorOpenAns
namespace Go.Proofs.YtbfbcbhnknhgnaaDoor
open Go.RowKit Go.ChangeShapes Go.WideShapes Go.ChangeAt

theorem told_reads (os : Os) {H : Type} (enc : TypeId × Value → H) : ∃ places, DataW.whole enc Tryd.prog ((laidWorld os).forCall (fun _ _ => 0) ⟨#[], #[.string ⟨#[]⟩], []⟩).memory Tryd.f7.params.toList Rows.askToldSpec.vars false (#[.string ⟨#[]⟩] : Array Value).toList 8 = some ([.lit (.string [])], [], places) :=
  ⟨[], by kernel_rfl⟩

set_option maxRecDepth 100000 in
theorem told_lifted (os : Os) (started : os.Started) (H : Type) (enc : TypeId × Value → H) (F : Stop.Interp) :
    ReturnsInHanded {} Tryd.checked os 7 .any ((OpenSpec.ofChange Rows.askToldSpec).preRow enc Tryd.prog Tryd.f7 Rows.askToldRow.domain false Rows.askToldRow.laid) (((OpenSpec.ofChange Rows.askToldSpec).at F).post enc Tryd.prog Tryd.f7 false true false false) := by
  obtain ⟨places, hx⟩ := told_reads os enc
  refine law_lifts_row (C := Tryd.checked) (s := Rows.askToldSpec) (kk := none) (laid := Rows.askToldRow.laid) knob_none laid_out started (by kernel_rfl) Tryd.func7 Tryd.underlying4 rfl (fun t ht => ?_) rfl (fun ds hd => ?_)
    (witness_row_at (enc := enc) (C := Tryd.checked) false (laidWorld os) #[.string ⟨#[]⟩] rfl (by kernel_rfl) (by kernel_rfl) (by kernel_rfl)
      (OpenSpec.preRow_of_cond 8 hx (by kernel_rfl) (fun k hk => by cases hk) (by kernel_rfl) (laid_met os _))) ?_
  · have h : ([9] : List TypeId).all (fun t => Tryd.prog.readableRec t && decide (t < Tryd.prog.types.size)) = true := by kernel_rfl
    have hm : t ∈ ([9] : List TypeId) := by
      have : t ∈ ([9] : List TypeId) := ht
      simp only [List.mem_cons, List.not_mem_nil, or_false] at this ⊢
      rcases this with rfl <;> simp
    have := List.all_eq_true.1 h t hm
    simp only [Bool.and_eq_true, decide_eq_true_eq] at this
    exact this
  · match ds, hd with
    | [d0], _ => exact ⟨rfl, rfl, rfl⟩
  · intro W base args ds ps hval hA hk hwt
    have hA' : DataW.TrodAll enc Tryd.prog W 0 (fun _ => true) true [9] args.toList ds ps := hA
    obtain ⟨v0, d0, rfl, rfl, h0⟩ := trodAll_one hA'
    obtain ⟨s, rfl, rfl⟩ := open_strd (hval 0 9 v0 rfl rfl) h0
    exact law_told s.data.toList W (str_fits (j := 0) rfl rfl hwt)

theorem told_said : Rows.AskToldSaid :=
  OpenClaim.holds_of_cond 7 Tryd.f7 rfl rfl rfl rfl rfl rfl rfl ⟨rfl, rfl, rfl, rfl, rfl⟩ rfl rfl rfl rfl rfl (by kernel_rfl) Tryd.func7 (by kernel_rfl)
    (of_decide_eq_true (by kernel_rfl)) (by unfold Func.isWrapper; first | (rw [if_pos (by decide +kernel)]; kernel_rfl) | (rw [if_neg (by decide +kernel)]; exact ⟨rfl, rfl⟩))
    (fun os started H enc _ F => by rw [OpenClaim.pre_eq_preRow]; exact told_lifted os started H enc F)

theorem told_plain (f : FuncId) (fn : Func) (hf : Tryd.pinned.checked.prog.funcNamed "paravent/paraventlaw26.AskTold" = some f) (hfn : Tryd.pinned.checked.prog.funcs[f]? = some fn) :
    false = Tryd.pinned.checked.prog.looks [] ∧ ∀ (j : Nat) t, fn.params[j]? = some t → Tryd.pinned.checked.prog.wantsStandIn t = false := by
  obtain rfl : f = 7 := Option.some.inj ((show Tryd.prog.funcNamed "paravent/paraventlaw26.AskTold" = some 7 by kernel_rfl).symm.trans hf) |>.symm
  obtain rfl : fn = Tryd.f7 := (Option.some.inj (Tryd.func7.symm.trans hfn)).symm
  refine ⟨by kernel_rfl, fun j t ht => ?_⟩
  have h : Tryd.f7.params.toList.all (fun t => !Tryd.prog.wantsStandIn t) = true := by kernel_rfl
  have := List.all_eq_true.1 h t (by simpa using Array.mem_of_getElem? ht)
  show Tryd.prog.wantsStandIn t = false
  simpa using this

/-- THE CARD. -/
theorem askTold_holds : Rows.AskToldCardSaid :=
  Claim7.holds_tied_plain_at .later [] _ _ _ _ told_said (fun _ h => by cases h) (by kernel_rfl) (fun _ h => by cases h) askTold_row_tie rfl ⟨rfl, rfl⟩ (by kernel_rfl) rfl told_plain (by kernel_rfl)
end Go.Proofs.YtbfbcbhnknhgnaaDoor
