/-
  AuditSkips holds: what is skipped counts as drained, and turns nothing else. Conditions: none.
-/
import Derived.Test.YtnkgdabapgdiaaaLawOwn
namespace Go.Proofs.Ytnkgdabapgdiaaa
open Go.RowKit Go.ChangeShapes Go.WideShapes

theorem skip_any (w : World) (base b : Nat) (l : List Ev) (past n : Int) (h : Trl w base b l past) (hp : 0 ≤ past) (hp1 : past ≤ 4611686018427387903) :
    ∃ (ok : Bool) (p' : Int), ((0 ≤ n ∧ n ≤ 4611686018427387903 - past ∧ ok = true ∧ p' = past + n) ∨ (n < 0 ∧ ok = false ∧ p' = past) ∨ (0 ≤ n ∧ 4611686018427387903 - past < n ∧ ok = false ∧ p' = past)) ∧
      Calls Try.prog 22 #[.pointer (some ⟨b, 0, none⟩), .int .i64 n] w fun e w' => e = .returned (.bool ok) ∧ Trl w' base b l p' ∧ Below base w w' := by
  by_cases h0 : n < 0
  · exact ⟨false, past, .inr (.inl ⟨h0, rfl, rfl⟩), (skip_no w base b l past n h hp hp1 (.inl h0)).mono fun e w' ⟨h1, h2⟩ => ⟨h1, h2 ▸ h, h2 ▸ Below.refl _ _⟩⟩
  · by_cases h1 : n ≤ 4611686018427387903 - past
    · exact ⟨true, past + n, .inl ⟨by omega, h1, rfl, rfl⟩, skip_yes w base b l past n h hp hp1 (by omega) h1⟩
    · exact ⟨false, past, .inr (.inr ⟨by omega, by omega, rfl, rfl⟩), (skip_no w base b l past n h hp hp1 (.inr (by omega))).mono fun e w' ⟨h1, h2⟩ => ⟨h1, h2 ▸ h, h2 ▸ Below.refl _ _⟩⟩

set_option maxRecDepth 100000 in
set_option maxHeartbeats 2000000 in
theorem law_skips (l : List Ev) (s : Value) (n m : Int) (w : World) (hs : Sl evC w w.heap.size s l) :
    Calls Try.prog 7 #[s, .int .i64 n, .int .i64 m] w (Holds w) := by
  have hs' := hs
  obtain ⟨A, ca, rfl, h1, h2, -⟩ := hs'
  unfold maxLen at h2
  by_cases hlen : l.length ≤ 200
  · go_enter Try.func7, Try.ntmps7
    go_wp2_with fail
    refine (filled_ok l _ w _ hs (Nat.le_refl _) hlen).mono ?_
    rintro e w1 ⟨rfl, t1, b1⟩
    have HS := Lib.hid hs
    clear hs
    go_wp2_with fail
    obtain ⟨ok, p, hok, hc⟩ := skip_any w1 _ _ _ _ n t1 (by omega) (by omega)
    refine hc.mono ?_
    rintro e w2 ⟨rfl, t2, b2⟩
    have B2 := b1.trans b2
    have hp0 : 0 ≤ p ∧ p ≤ 4611686018427387903 := by omega
    clear hc t1 b1 b2
    go_wp2_with fail
    refine (past_ok _ _ _ _ _ t2).mono ?_
    rintro e w3 ⟨rfl, rfl⟩
    obtain ⟨ok2, p2, hok2, hc2⟩ := skip_any w3 _ _ _ _ m t2 hp0.1 hp0.2
    have HC := Lib.hid hc2
    clear hc2 t2
    rcases hok with ⟨k1, k2, rfl, rfl⟩ | ⟨k1, rfl, rfl⟩ | ⟨k1, k2, rfl, rfl⟩ <;> rcases hok2 with ⟨j1, j2, rfl, rfl⟩ | ⟨j1, rfl, rfl⟩ | ⟨j1, j2, rfl, rfl⟩ <;> simp only [Int.zero_add, Int.sub_zero] at * <;> go_wp2_with fail
    all_goals
      refine HC.out.mono ?_
      rintro e w4 ⟨rfl, t4, b4⟩
      have B4 := B2.trans b4
      clear b4 B2 HC
      go_wp2_with fail
      refine (past_ok _ _ _ _ _ t4).mono ?_
      rintro e w5 ⟨rfl, rfl⟩
      go_wp2_with fail
      refine (left_ok _ _ _ _ _ t4 (by omega)).mono ?_
      rintro e w6 ⟨v6, rfl, o6, b6⟩
      have B6 := B4.trans (b6.mono B4.size)
      clear b6 B4 t4
      go_wp2_with fail
      refine (same_ok _ _ _ _ _ _ o6.sl ((HS.out.below B6).more B6.size)).mono ?_
      rintro e w7 ⟨rfl, n7, rfl⟩
      clear o6
      go_wp2_with fail
      refine (known_ok _).mono ?_
      rintro e w8 ⟨rfl, b8⟩
      go_wp2_with fail
      go_ret
      exact ⟨rfl, (below_drewN B6 n7).trans (b8.mono B6.size)⟩
  · go_enter Try.func7, Try.ntmps7
    go_wp2_with fail
    refine (known_ok _).mono ?_
    rintro e w7 ⟨rfl, b7⟩
    go_wp2_with fail
    go_ret
    exact ⟨rfl, b7⟩

theorem auditSkips_lifted (os : Os) (started : os.Started) (H : Type) (enc : TypeId × Value → H) :
    ReturnsInHanded {} Try.checked os 7 .any (Rows.auditSkipsSpec.pre6 enc Try.prog Try.f7 Rows.auditSkipsRow.domain false) (Rows.auditSkipsSpec.post enc Try.prog Try.f7 false true false false) := by
  refine law_lifts (C := Try.checked) knob_none laid_out started (by kernel_rfl) Try.func7 Try.underlying4 rfl (fun t ht => ?_) rfl (fun ds hd => ?_)
    (ChangeSpec.witness6 (enc := enc) (C := Try.checked) false ⟨#[], #[.slice none 0 0, .int .i64 0, .int .i64 0], []⟩ 8 (by kernel_rfl) (by kernel_rfl) (by kernel_rfl) (by kernel_rfl)) ?_
  · have h : ([3, 22] : List TypeId).all (fun t => Try.prog.readableRec t && decide (t < Try.prog.types.size)) = true := by kernel_rfl
    have hm : t ∈ ([3, 22] : List TypeId) := by
      have : t ∈ ([22, 3, 3] : List TypeId) := ht
      simp only [List.mem_cons, List.not_mem_nil, or_false] at this ⊢
      rcases this with rfl | rfl | rfl <;> simp
    have := List.all_eq_true.1 h t hm
    simp only [Bool.and_eq_true, decide_eq_true_eq] at this
    exact this
  · match ds, hd with
    | [d1, d2, d3], _ => exact ⟨rfl, rfl, rfl⟩
  · intro W base args ds ps hval hA
    have hA' : DataW.TrodAll enc Try.prog W 0 (fun _ => true) true [22, 3, 3] args.toList ds ps := hA
    obtain ⟨v0, v1, v2, d0, d1, d2, p0, p1, p2, rfl, rfl, rfl, h0, h1, h2⟩ := trodAll_three hA'
    obtain ⟨l, hl⟩ := open_evs (hval 0 22 v0 rfl rfl) h0
    obtain ⟨a, rfl, -⟩ := open_int Try.underlying3 (hval 1 3 v1 rfl rfl) h1
    obtain ⟨b, rfl, -⟩ := open_int Try.underlying3 (hval 2 3 v2 rfl rfl) h2
    exact law_skips l v0 a b W hl

theorem auditSkips_holds : Rows.AuditSkipsSaid :=
  OpenClaim.holds_of_wide 7 Try.f7 rfl rfl rfl rfl rfl rfl rfl ⟨rfl, rfl, rfl, rfl, rfl⟩ rfl rfl rfl rfl rfl (by kernel_rfl) Try.func7 (by kernel_rfl)
    (of_decide_eq_true (by kernel_rfl)) (by unfold Func.isWrapper; rw [if_neg (of_decide_eq_false (by kernel_rfl))]; exact ⟨rfl, rfl⟩)
    (fun os started H enc _ => auditSkips_lifted os started H enc)
end Go.Proofs.Ytnkgdabapgdiaaa
