/-
  A tenant that is not there knows no one, and has nothing; and the fixed calls come out as they should. Conditions: none.
-/
import Derived.Test.YtmgpfkoomlgcoaaGreatEvT
import Derived.Test.YtmgpfkoomlgcoaaGreatArgs
import Derived.Test.YtmgpfkoomlgcoaaGreatClTenantNil
namespace Go.Proofs.YtmgpfkoomlgcoaaGreat
open Ev Go.RowKit Go.ChangeShapes Go.WideShapes

theorem tenant_run (v0 v1 v2 v3 v4 v5 v6 v7 v8 v9 v10 v11 v12 v13 v14 v15 v16 v17 v18 v19 v20 v21 v22 v23 v24 v25 : Value) : evFlat ev 60 4 [.agg [.lit v0, .lit v1, .lit v2, .lit v3, .lit v4, .lit v5, .lit v6, .lit v7, .lit v8, .lit v9, .lit v10, .lit v11, .lit v12, .lit v13, .lit v14, .lit v15, .lit v16, .lit v17, .lit v18, .lit v19, .lit v20, .lit v21, .lit v22, .lit v23, .lit v24, .lit v25]] = some (.bool true) := by kernel_rfl

theorem list_26 : ∀ l : List Value, l.length = 26 → ∃ v0 v1 v2 v3 v4 v5 v6 v7 v8 v9 v10 v11 v12 v13 v14 v15 v16 v17 v18 v19 v20 v21 v22 v23 v24 v25, l = [v0, v1, v2, v3, v4, v5, v6, v7, v8, v9, v10, v11, v12, v13, v14, v15, v16, v17, v18, v19, v20, v21, v22, v23, v24, v25]
  | [v0, v1, v2, v3, v4, v5, v6, v7, v8, v9, v10, v11, v12, v13, v14, v15, v16, v17, v18, v19, v20, v21, v22, v23, v24, v25], _ => ⟨v0, v1, v2, v3, v4, v5, v6, v7, v8, v9, v10, v11, v12, v13, v14, v15, v16, v17, v18, v19, v20, v21, v22, v23, v24, v25, rfl⟩

theorem law_tenant (cs : Array Value) (h : cs.size = 26) (W : World) : Calls Tryz.prog 4 #[.agg cs] W (Holds W) := by
  obtain ⟨v0, v1, v2, v3, v4, v5, v6, v7, v8, v9, v10, v11, v12, v13, v14, v15, v16, v17, v18, v19, v20, v21, v22, v23, v24, v25, e⟩ := list_26 cs.toList (by simpa using h)
  obtain rfl : cs = #[v0, v1, v2, v3, v4, v5, v6, v7, v8, v9, v10, v11, v12, v13, v14, v15, v16, v17, v18, v19, v20, v21, v22, v23, v24, v25] := by rw [← e]
  exact evFlat_ok ev_ok (tenant_run v0 v1 v2 v3 v4 v5 v6 v7 v8 v9 v10 v11 v12 v13 v14 v15 v16 v17 v18 v19 v20 v21 v22 v23 v24 v25) (concs_flat _ [.agg #[v0, v1, v2, v3, v4, v5, v6, v7, v8, v9, v10, v11, v12, v13, v14, v15, v16, v17, v18, v19, v20, v21, v22, v23, v24, v25]] rfl) W

set_option maxRecDepth 100000 in
theorem tenantNil_lifted (os : Os) (started : os.Started) (H : Type) (enc : TypeId × Value → H) :
    ReturnsInHanded {} Tryz.checked os 4 .any (Rows.tenantNilSpec.pre6 enc Tryz.prog Tryz.f4 Rows.tenantNilRow.domain false) (Rows.tenantNilSpec.post enc Tryz.prog Tryz.f4 false true false false) := by
  refine law_lifts (C := Tryz.checked) knob_none seat_laid started tenantNil_noInit Tryz.func4 Tryz.underlying4 rfl (fun t ht => ?_) rfl (fun ds hd => ?_)
    (ChangeSpec.witness6 (enc := enc) (C := Tryz.checked) false ⟨#[], #[.agg #[.int .i64 0, .int .i64 0, .int .i64 0, .int .u64 0, .int .i64 0, .int .i64 0, .int .i64 0, .int .i64 0, .int .i64 0, .string ⟨#[]⟩, .int .i64 0, .int .i64 0, .int .i64 0, .int .i64 0, .int .i64 0, .int .i64 0, .int .i64 0, .int .u64 0, .int .i64 0, .int .u64 0, .int .i64 0, .int .i64 0, .int .i64 0, .int .i64 0, .int .u64 0, .int .i64 0]], []⟩ 8 (by kernel_rfl) (by kernel_rfl) (by kernel_rfl) (by kernel_rfl)) ?_
  · have h : ([51] : List TypeId).all (fun t => Tryz.prog.readableRec t && decide (t < Tryz.prog.types.size)) = true := by kernel_rfl
    have hm : t ∈ ([51] : List TypeId) := by
      have : t ∈ ([51] : List TypeId) := ht
      exact this
    have := List.all_eq_true.1 h t hm
    simp only [Bool.and_eq_true, decide_eq_true_eq] at this
    exact this
  · match ds, hd with
    | [d1], _ => exact ⟨rfl, rfl, rfl⟩
  · intro W base args ds ps hval hA
    have hA' : DataW.TrodAll enc Tryz.prog W 0 (fun _ => true) true [51] args.toList ds ps := hA
    obtain ⟨v0, d0, rfl, rfl, h0⟩ := trodAll_one hA'
    obtain ⟨cs, rfl, hsz⟩ := okWide_struct Tryz.underlying51 (hval 0 51 v0 rfl rfl)
    have hC : Tryz.prog.cellsOf 51 = 26 := by kernel_rfl
    exact law_tenant cs (hsz.trans hC) W

theorem tenantNil_holds : Rows.TenantNilSaid :=
  OpenClaim.holds_of_wide 4 Tryz.f4 rfl rfl rfl rfl rfl rfl rfl ⟨rfl, rfl, rfl, rfl, rfl⟩ rfl rfl rfl rfl rfl tenantNil_named Tryz.func4 tenantNil_closed
    (of_decide_eq_true (by kernel_rfl)) (by unfold Func.isWrapper; rw [if_neg (of_decide_eq_false (by kernel_rfl))]; exact ⟨rfl, rfl⟩)
    (fun os started H enc _ => tenantNil_lifted os started H enc)
end Go.Proofs.YtmgpfkoomlgcoaaGreat
