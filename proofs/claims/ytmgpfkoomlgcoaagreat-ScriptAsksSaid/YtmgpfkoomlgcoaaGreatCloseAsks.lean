/-
  ScriptAsks holds: for any connection and asks the law returns true, and its arguments read as they did. Conditions: none.
-/
import Derived.Test.YtmgpfkoomlgcoaaGreatLawAsks
import Derived.Test.YtmgpfkoomlgcoaaGreatOpenAsks
import Derived.Test.YtmgpfkoomlgcoaaGreatClScriptAsks
namespace Go.Proofs.YtmgpfkoomlgcoaaGreat
open Go.RowKit Go.ChangeShapes Go.WideShapes

theorem law_asks (conn : Int) (l : List Akt) (v : Value) (w : World) (hs : Sl akC w w.heap.size v l) (hf : ∀ a ∈ l, a.q.fits ∧ a.q.ib) : Calls Tryz.prog 6 #[.int .i64 conn, v] w (Holds w) := by
  by_cases h : l.length ≤ 60
  · exact asks_few conn l v w hs hf h
  · obtain ⟨A, ca, rfl, -, -, -⟩ := hs
    exact asks_many conn A l.length ca (by omega) w

set_option maxRecDepth 100000 in
theorem scriptAsks_lifted (os : Os) (started : os.Started) (H : Type) (enc : TypeId × Value → H) :
    ReturnsInHanded {} Tryz.checked os 6 .any (Rows.scriptAsksSpec.pre6 enc Tryz.prog Tryz.f6 Rows.scriptAsksRow.domain false) (Rows.scriptAsksSpec.post enc Tryz.prog Tryz.f6 false true false false) := by
  refine law_lifts_sized (C := Tryz.checked) knob_none seat_laid started scriptAsks_noInit Tryz.func6 Tryz.underlying4 rfl (fun t ht => ?_) rfl (fun ds hd => ?_)
    (ChangeSpec.witness6 (enc := enc) (C := Tryz.checked) false ⟨#[], #[.int .i64 0, .slice none 0 0], []⟩ 8 (by kernel_rfl) (by kernel_rfl) (by kernel_rfl) (by kernel_rfl)) ?_
  · have h : ([83, 3] : List TypeId).all (fun t => Tryz.prog.readableRec t && decide (t < Tryz.prog.types.size)) = true := by kernel_rfl
    have hm : t ∈ ([83, 3] : List TypeId) := by
      have : t ∈ ([3, 83] : List TypeId) := ht
      simp only [List.mem_cons, List.not_mem_nil, or_false] at this ⊢
      rcases this with rfl | rfl <;> simp
    have := List.all_eq_true.1 h t hm
    simp only [Bool.and_eq_true, decide_eq_true_eq] at this
    exact this
  · match ds, hd with
    | [d1, d2], _ => exact ⟨rfl, rfl, rfl⟩
  · intro W base args ds ps hval hA hwt
    have hA' : DataW.TrodAll enc Tryz.prog W 0 (fun _ => true) true [3, 83] args.toList ds ps := hA
    obtain ⟨v0, v1, d0, d1, p0, p1, rfl, rfl, rfl, h0, h1⟩ := trodAll_two hA'
    obtain ⟨x, rfl, -⟩ := open_int Tryz.underlying3 (hval 0 3 v0 rfl rfl) h0
    obtain ⟨l, hs, hf⟩ := open_asks (hval 1 83 v1 rfl rfl) h1 (fun n hn => by
      have := List.all_eq_true.1 hwt n (DataW.weights_mem_each (j := 1) (t := 83) rfl rfl n hn)
      simpa using this)
    exact law_asks x l v1 W hs hf

theorem scriptAsks_holds : Rows.ScriptAsksSaid :=
  OpenClaim.holds_of_wide 6 Tryz.f6 rfl rfl rfl rfl rfl rfl rfl ⟨rfl, rfl, rfl, rfl, rfl⟩ rfl rfl rfl rfl rfl scriptAsks_named Tryz.func6 scriptAsks_closed
    (of_decide_eq_true (by kernel_rfl)) (by unfold Func.isWrapper; rw [if_neg (of_decide_eq_false (by kernel_rfl))]; exact ⟨rfl, rfl⟩)
    (fun os started H enc _ => scriptAsks_lifted os started H enc)
end Go.Proofs.YtmgpfkoomlgcoaaGreat
