/-
  A server that is not there takes nothing and has nothing; and the fixed calls come out as they should. Conditions: none.
-/
import Derived.Test.YtmgpfkoomlgcoaaGreatEvT
import Derived.Test.YtmgpfkoomlgcoaaGreatArgs
import Derived.Test.YtmgpfkoomlgcoaaGreatClServerNil
import Derived.WalkKit
namespace Go.Proofs.YtmgpfkoomlgcoaaGreat
open Ev Go.RowKit Go.ChangeShapes Go.WideShapes

theorem step_1 (c b d n : Value) : evFlat ev 20 38 [.lit (.pointer none), .agg [.lit (.int .i64 1), .lit c, .lit b, .lit d, .lit n]] = some (.tuple #[.slice none 0 0, .bool false]) := by kernel_rfl
theorem step_2 (c b d n : Value) : evFlat ev 20 38 [.lit (.pointer none), .agg [.lit (.int .i64 2), .lit c, .lit b, .lit d, .lit n]] = some (.tuple #[.slice none 0 0, .bool false]) := by kernel_rfl
theorem step_3 (c b d n : Value) : evFlat ev 20 38 [.lit (.pointer none), .agg [.lit (.int .i64 3), .lit c, .lit b, .lit d, .lit n]] = some (.tuple #[.slice none 0 0, .bool false]) := by kernel_rfl

theorem step_ok (k : Int) (c b d n : Value) (w : World) : Calls Tryz.prog 38 #[.pointer none, .agg #[.int .i64 k, c, b, d, n]] w (fun e w' => e = .returned (.tuple #[.slice none 0 0, .bool false]) ∧ Below w.heap.size w w') := by
  have hc : ∀ k, Concs emp [.lit (.pointer none), .agg [.lit (.int .i64 k), .lit c, .lit b, .lit d, .lit n]] (#[Value.pointer none, .agg #[.int .i64 k, c, b, d, n]] : Array Value).toList := fun k => concs_flat _ _ rfl
  by_cases h1 : k = 1
  · subst h1; exact evFlat_ok ev_ok (step_1 c b d n) (hc _) w
  by_cases h2 : k = 2
  · subst h2; exact evFlat_ok ev_ok (step_2 c b d n) (hc _) w
  by_cases h3 : k = 3
  · subst h3; exact evFlat_ok ev_ok (step_3 c b d n) (hc _) w
  go_enter Tryz.func38, Tryz.ntmps38
  go_wp2
  exact ⟨rfl, _, results_tmp2 rfl _ _ _, rfl, (Below.refl _ w).alloc (Nat.le_refl _) _⟩

def stepOv : Ov := fun f args => match Nat.beq f 38 with
  | true => match args with
    | [.lit (.pointer none), .agg [.lit (.int .i64 _), _, _, _, _]] => some (.tuple [.lit (.slice none 0 0), .lit (.bool false)])
    | _ => none
  | false => none

theorem stepOv_ok : OvOk Tryz.prog stepOv := by
  intro f args v h γ w xs hx
  unfold stepOv at h
  split at h
  · rename_i hf
    have hf := Nat.eq_of_beq_eq_true hf
    subst hf
    split at h
    · rename_i k a b c d
      simp only [Option.some.injEq] at h
      subst h
      simp only [Concs, Conc] at hx
      obtain ⟨x, xs', e, rfl, y, ys, rfl, ⟨cs, rfl, hcs⟩, rfl⟩ := hx
      obtain ⟨z, zs, e1, rfl, u1, us1, rfl, _, u2, us2, rfl, _, u3, us3, rfl, _, u4, us4, rfl, _, rfl⟩ := hcs
      obtain rfl : cs = #[.int .i64 k, u1, u2, u3, u4] := Array.ext' e1
      obtain rfl : xs = #[.pointer none, .agg #[.int .i64 k, u1, u2, u3, u4]] := Array.ext' e
      refine ⟨Tryz.call38 _ w, (step_ok k u1 u2 u3 u4 w).mono ?_⟩
      rintro e w' ⟨rfl, hb⟩
      exact ⟨_, rfl, conc_flat _ _ rfl, hb⟩
    · cases h
  · cases h

theorem server_run (k : Int) (c b d n u : Value) : evFlatO (ev.only [40, 41, 42, 43, 44, 45, 31, 46]) stepOv 60 7 [.agg [.lit (.int .i64 k), .lit c, .lit b, .lit d, .lit n], .lit u] = some (.bool true) := by kernel_rfl

theorem list_5 : ∀ l : List Value, l.length = 5 → ∃ v0 v1 v2 v3 v4, l = [v0, v1, v2, v3, v4]
  | [v0, v1, v2, v3, v4], _ => ⟨v0, v1, v2, v3, v4, rfl⟩

theorem law_server (k : Int) (c b d n u : Value) (W : World) : Calls Tryz.prog 7 #[.agg #[.int .i64 k, c, b, d, n], u] W (Holds W) :=
  evFlatO_ok (only_ok ev_ok _) stepOv_ok (server_run k c b d n u) (concs_flat _ [.agg #[.int .i64 k, c, b, d, n], u] rfl) W

set_option maxRecDepth 100000 in
theorem serverNil_lifted (os : Os) (started : os.Started) (H : Type) (enc : TypeId × Value → H) :
    ReturnsInHanded {} Tryz.checked os 7 .any (Rows.serverNilSpec.pre6 enc Tryz.prog Tryz.f7 Rows.serverNilRow.domain false) (Rows.serverNilSpec.post enc Tryz.prog Tryz.f7 false true false false) := by
  refine law_lifts (C := Tryz.checked) knob_none seat_laid started serverNil_noInit Tryz.func7 Tryz.underlying4 rfl (fun t ht => ?_) rfl (fun ds hd => ?_)
    (ChangeSpec.witness6 (enc := enc) (C := Tryz.checked) false ⟨#[], #[.agg #[.int .i64 0, .int .i64 0, .slice none 0 0, .int .u64 0, .int .i64 0], .int .i64 0], []⟩ 8 (by kernel_rfl) (by kernel_rfl) (by kernel_rfl) (by kernel_rfl)) ?_
  · have h : ([3, 97] : List TypeId).all (fun t => Tryz.prog.readableRec t && decide (t < Tryz.prog.types.size)) = true := by kernel_rfl
    have hm : t ∈ ([3, 97] : List TypeId) := by
      have : t ∈ ([97, 3] : List TypeId) := ht
      simp only [List.mem_cons, List.not_mem_nil, or_false] at this ⊢
      rcases this with rfl | rfl <;> simp
    have := List.all_eq_true.1 h t hm
    simp only [Bool.and_eq_true, decide_eq_true_eq] at this
    exact this
  · match ds, hd with
    | [d1, d2], _ => exact ⟨rfl, rfl, rfl⟩
  · intro W base args ds ps hval hA
    have hA' : DataW.TrodAll enc Tryz.prog W 0 (fun _ => true) true [97, 3] args.toList ds ps := hA
    obtain ⟨v0, v1, d0, d1, p0, p1, rfl, rfl, rfl, h0, h1⟩ := trodAll_two hA'
    obtain ⟨cs, rfl, hsz⟩ := okWide_struct Tryz.underlying97 (hval 0 97 v0 rfl rfl)
    have hC : Tryz.prog.cellsOf 97 = 5 := by kernel_rfl
    obtain ⟨x0, x1, x2, x3, x4, e⟩ := list_5 cs.toList (by simpa using hsz.trans hC)
    obtain rfl : cs = #[x0, x1, x2, x3, x4] := by rw [← e]
    obtain ⟨fuel, hf⟩ := h0
    obtain ⟨ys, n, _, _, _, hyl, hf⟩ := DataW.trod_struct Tryz.underlying97 hf
    have hyl : ys.length = 5 := hyl
    have g0 : DataW.trod enc Tryz.prog W 0 (fun _ => true) true n 3 (([x0, x1, x2, x3, x4].drop 0).take (Tryz.prog.cellsOf 3)) = some (ys[0]'(by omega)) := (hf 0 _ rfl).trans (List.getElem?_eq_getElem (by omega))
    have ki : Tryz.prog.cellsOf 3 = 1 := by kernel_rfl
    rw [ki] at g0
    obtain ⟨k, hk, -, -⟩ := DataW.trod_int Tryz.underlying3 g0
    obtain rfl : x0 = .int .i64 k := by simpa using hk
    exact law_server k x1 x2 x3 x4 v1 W

theorem serverNil_holds : Rows.ServerNilSaid :=
  OpenClaim.holds_of_wide 7 Tryz.f7 rfl rfl rfl rfl rfl rfl rfl ⟨rfl, rfl, rfl, rfl, rfl⟩ rfl rfl rfl rfl rfl serverNil_named Tryz.func7 serverNil_closed
    (of_decide_eq_true (by kernel_rfl)) (by unfold Func.isWrapper; rw [if_neg (of_decide_eq_false (by kernel_rfl))]; exact ⟨rfl, rfl⟩)
    (fun os started H enc _ => serverNil_lifted os started H enc)
end Go.Proofs.YtmgpfkoomlgcoaaGreat
