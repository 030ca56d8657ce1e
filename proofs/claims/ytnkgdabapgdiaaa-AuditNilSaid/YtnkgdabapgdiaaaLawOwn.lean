/-
  AuditOwn holds: for every row of events, every user, every page: the law returns true, and its arguments read as they did. Conditions: none.
-/
import Derived.Test.YtnkgdabapgdiaaaKnown
namespace Go.Proofs.Ytnkgdabapgdiaaa
open Go.RowKit Go.ChangeShapes Go.WideShapes

theorem knob_none : ownKnob Try.prog.godebug = none := by kernel_rfl
theorem laid_out : laidOutB Try.prog = true := by kernel_rfl
instance : Inhabited Ev := ⟨⟨0, 0, 0, 0⟩⟩

section
variable {H : Type} {enc : TypeId × Value → H} {w : World} {base : Nat} {spare : Nat → Bool} {held : Bool}
theorem trod_ev (n : Nat) (cs : List Value) (x : DataW H × List MemPlace) (h : DataW.trod enc Try.prog w base spare held n 33 cs = some x) (hl : cs.length = 4) : ∃ a : Ev, cs = evC a ∧ True := by
  match cs, hl with
  | [c0, c1, c2, c3], _ =>
    obtain ⟨xs, m, _, _, _, hlen, hf⟩ := DataW.trod_struct Try.underlying33 h
    match xs, hlen with
    | [y0, y1, y2, y3], _ =>
      have h0 : DataW.trod enc Try.prog w base spare held m 3 (([c0, c1, c2, c3].drop 0).take (Try.prog.cellsOf 3)) = some y0 := hf 0 _ rfl
      have h1 : DataW.trod enc Try.prog w base spare held m 3 (([c0, c1, c2, c3].drop 1).take (Try.prog.cellsOf 3)) = some y1 := hf 1 _ rfl
      have h2 : DataW.trod enc Try.prog w base spare held m 3 (([c0, c1, c2, c3].drop 2).take (Try.prog.cellsOf 3)) = some y2 := hf 2 _ rfl
      have h3 : DataW.trod enc Try.prog w base spare held m 3 (([c0, c1, c2, c3].drop 3).take (Try.prog.cellsOf 3)) = some y3 := hf 3 _ rfl
      have k3 : Try.prog.cellsOf 3 = 1 := by kernel_rfl
      simp only [k3, List.drop_zero, List.drop_succ_cons, List.take_succ_cons, List.take_zero] at h0 h1 h2 h3
      obtain ⟨a0, e0, _⟩ := DataW.trod_int Try.underlying3 h0
      obtain ⟨a1, e1, _⟩ := DataW.trod_int Try.underlying3 h1
      obtain ⟨a2, e2, _⟩ := DataW.trod_int Try.underlying3 h2
      obtain ⟨a3, e3, _⟩ := DataW.trod_int Try.underlying3 h3
      simp only [List.cons.injEq, and_true] at e0 e1 e2 e3
      subst e0 e1 e2 e3
      exact ⟨⟨a0, a1, a2, a3⟩, rfl, trivial⟩
theorem open_evs {r : Reach} {b0 : Nat} {v : Value} {d : DataW H} {ps : List MemPlace} (hv : Value.okWide Try.prog w r b0 22 v) (h : DataW.Trod enc Try.prog w base spare held 22 v d ps) : ∃ l : List Ev, Sl evC w w.heap.size v l := by
  obtain ⟨l, hl, _⟩ := open_sl (enc' := evC) (by omega) evC_len (fun _ => True) Try.underlying22 (by kernel_rfl) trod_ev hv h
  exact ⟨l, hl⟩
end

set_option maxHeartbeats 1000000 in
theorem law_own (l : List Ev) (s : Value) (user from_ most : Int) (w : World) (hs : Sl evC w w.heap.size s l) :
    Calls Try.prog 3 #[s, .int .i64 user, .int .i64 from_, .int .i64 most] w (Holds w) := by
  have hs' := hs
  obtain ⟨A, ca, rfl, h1, h2, -⟩ := hs'
  unfold maxLen at h2
  by_cases hlen : l.length ≤ 200
  · go_enter Try.func3, Try.ntmps3
    go_wp2_with fail
    refine (filled_ok l _ w _ hs (Nat.le_refl _) hlen).mono ?_
    rintro e w1 ⟨rfl, t1, b1⟩
    go_wp2_with fail
    refine (own_ok _ _ _ _ _ user from_ most (by omega) t1).mono ?_
    rintro e w2 ⟨v2, rfl, o2, b2⟩
    have B2 := b1.trans (b2.mono b1.size)
    go_wp2_with fail
    refine (rown_ok l _ user w2 _ (hs.below B2) B2.size (by omega)).mono ?_
    rintro e w3 ⟨v3, rfl, o3, b3⟩
    go_wp2_with fail
    refine (page_ok (ownL l user) _ from_ most w3 _ o3.sl (Nat.le_refl _) (by have := ownL_len l user; omega)).mono ?_
    rintro e w4 ⟨v4, rfl, o4, b4⟩
    have b34 := b3.trans (b4.mono b3.size)
    have o2' := o2.sl.below b34
    have B4 := B2.trans (b34.mono B2.size)
    have t4 := (t1.below b2).below b34
    go_wp2_with fail
    refine (same_ok _ _ _ _ w4 _ (o2'.more b34.size) o4.sl).mono ?_
    rintro e w5 ⟨rfl, n5, rfl⟩
    go_wp2_with fail
    refine (len_ok _ _ _ _ _ (t4.drewN n5)).mono ?_
    rintro e w6 ⟨rfl, rfl⟩
    go_wp2_with fail
    refine (known_ok _).mono ?_
    rintro e w7 ⟨rfl, b7⟩
    go_wp2_with fail
    go_ret
    exact ⟨rfl, (below_drewN B4 n5).trans (b7.mono B4.size)⟩
  · go_enter Try.func3, Try.ntmps3
    go_wp2_with fail
    refine (known_ok _).mono ?_
    rintro e w7 ⟨rfl, b7⟩
    go_wp2_with fail
    go_ret
    exact ⟨rfl, b7⟩

theorem own_lifted (os : Os) (started : os.Started) (H : Type) (enc : TypeId × Value → H) :
    ReturnsInHanded {} Try.checked os 3 .any (Rows.auditOwnSpec.pre6 enc Try.prog Try.f3 Rows.auditOwnRow.domain false) (Rows.auditOwnSpec.post enc Try.prog Try.f3 false true false false) := by
  refine law_lifts (C := Try.checked) knob_none laid_out started (by kernel_rfl) Try.func3 Try.underlying4 rfl (fun t ht => ?_) rfl (fun ds hd => ?_)
    (ChangeSpec.witness6 (enc := enc) (C := Try.checked) false ⟨#[], #[.slice none 0 0, .int .i64 0, .int .i64 0, .int .i64 0], []⟩ 8 (by kernel_rfl) (by kernel_rfl) (by kernel_rfl) (by kernel_rfl)) ?_
  · have h : ([22, 3] : List TypeId).all (fun t => Try.prog.readableRec t && decide (t < Try.prog.types.size)) = true := by kernel_rfl
    have hm : t ∈ ([22, 3] : List TypeId) := by
      have : t ∈ ([22, 3, 3, 3] : List TypeId) := ht
      simpa using this
    have := List.all_eq_true.1 h t hm
    simp only [Bool.and_eq_true, decide_eq_true_eq] at this
    exact this
  · match ds, hd with
    | [d1, d2, d3, d4], _ => exact ⟨rfl, rfl, rfl⟩
  · intro W base args ds ps hval hA
    have hA' : DataW.TrodAll enc Try.prog W 0 (fun _ => true) true [22, 3, 3, 3] args.toList ds ps := hA
    obtain ⟨v0, v1, v2, v3, d0, d1, d2, d3, p0, p1, p2, p3, rfl, rfl, rfl, h0, h1, h2, h3⟩ := trodAll_four hA'
    obtain ⟨l, hl⟩ := open_evs (hval 0 22 v0 rfl rfl) h0
    obtain ⟨a, rfl, -⟩ := open_int Try.underlying3 (hval 1 3 v1 rfl rfl) h1
    obtain ⟨b, rfl, -⟩ := open_int Try.underlying3 (hval 2 3 v2 rfl rfl) h2
    obtain ⟨c, rfl, -⟩ := open_int Try.underlying3 (hval 3 3 v3 rfl rfl) h3
    exact law_own l v0 a b c W hl

theorem auditOwn_holds : Rows.AuditOwnSaid :=
  OpenClaim.holds_of_wide 3 Try.f3 rfl rfl rfl rfl rfl rfl rfl ⟨rfl, rfl, rfl, rfl, rfl⟩ rfl rfl rfl rfl rfl (by kernel_rfl) Try.func3 (by kernel_rfl)
    (of_decide_eq_true (by kernel_rfl)) (by unfold Func.isWrapper; rw [if_neg (of_decide_eq_false (by kernel_rfl))]; exact ⟨rfl, rfl⟩)
    (fun os started H enc _ => own_lifted os started H enc)
end Go.Proofs.Ytnkgdabapgdiaaa
