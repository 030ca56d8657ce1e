/-
  AuditNil holds: a trail that is not there takes nothing and has nothing. Conditions: none.
-/
import Derived.Test.YtnkgdabapgdiaaaLawOwn
import Derived.Deep.RegionHeld3
import Derived.Lib.SmallJoins
namespace Go.Proofs.Ytnkgdabapgdiaaa
open Go.RowKit Go.ChangeShapes Go.WideShapes

set_option maxHeartbeats 400000 in
theorem put_nil (x : Ev) (w : World) : Calls Try.prog 18 #[.pointer none, evV x] w fun e w' => e = .returned (.bool false) ∧ Below w.heap.size w w' := by
  go_enter Try.func18, Try.ntmps18
  go_wp2
  go_ret
  exact ⟨rfl, (Below.refl _ _).alloc (Nat.le_refl _) _⟩
set_option maxHeartbeats 400000 in
theorem skip_nil (n : Int) (w : World) : Calls Try.prog 22 #[.pointer none, .int .i64 n] w fun e w' => e = .returned (.bool false) ∧ Below w.heap.size w w' := by
  go_enter Try.func22, Try.ntmps22
  go_wp2
  go_ret
  exact ⟨rfl, Below.refl _ _⟩
set_option maxHeartbeats 400000 in
theorem len_nil (w : World) : Calls Try.prog 15 #[.pointer none] w fun e w' => e = .returned (.int .i64 0) ∧ Below w.heap.size w w' := by
  go_enter Try.func15, Try.ntmps15
  go_wp2
  go_ret
  exact ⟨rfl, Below.refl _ _⟩
set_option maxHeartbeats 400000 in
theorem past_nil (w : World) : Calls Try.prog 21 #[.pointer none] w fun e w' => e = .returned (.int .i64 0) ∧ Below w.heap.size w w' := by
  go_enter Try.func21, Try.ntmps21
  go_wp2
  go_ret
  exact ⟨rfl, Below.refl _ _⟩
set_option maxHeartbeats 400000 in
theorem left_nil (w : World) : Calls Try.prog 20 #[.pointer none] w fun e w' => e = .returned (.slice none 0 0) ∧ Below w.heap.size w w' := by
  go_enter Try.func20, Try.ntmps20
  go_wp2
  go_ret
  exact ⟨rfl, Below.refl _ _⟩
set_option maxHeartbeats 400000 in
theorem drain_nil (n : Int) (w : World) : Calls Try.prog 19 #[.pointer none, .int .i64 n] w fun e w' => e = .returned (.slice none 0 0) ∧ Below w.heap.size w w' := by
  have hn : imax 0 (imin n 0) = 0 := by rw [imax_eq, imin_eq]; omega
  go_enter Try.func19, Try.ntmps19
  go_wp2_with fail
  have hc := len_nil w
  refine hc.mono ?_
  rintro e w' ⟨rfl, hb⟩
  go_wp2_with fail
  go_ret
  exact ⟨rfl, hb⟩

def NilSlice (w : World) (e : Ending) (w' : World) : Prop := ∃ A c, e = .returned (.slice A 0 c) ∧ Below w.heap.size w w'
theorem own_none (w : World) (user n : Int) : Calls Try.prog 12 #[.pointer none, .int .i64 user, .int .i64 0, .int .i64 n] w (NilSlice w) :=
  (own_nil w user 0 n).mono fun e w' ⟨v, h1, h2, h3⟩ => by
    obtain ⟨A, c, rfl⟩ := h2.form
    have : (pageL [] 0 n).length = 0 := by simp [pageL]
    rw [this] at h1
    exact ⟨A, c, h1, h3⟩

set_option maxRecDepth 100000 in
set_option maxHeartbeats 4000000 in
theorem law_nil (x : Ev) (n : Int) (w : World) : Calls Try.prog 8 #[evV x, .int .i64 n] w (Holds w) := by
  have cb := Blk.new w 33 (evA x)
  have hB := (Below.refl w.heap.size w).alloc (Nat.le_refl _) (.cells (evA x) 33)
  go_enter Try.func8, Try.ntmps8
  go_wp2_with fail
  generalize w.alloc (Obj.cells #[Value.int IntKind.i64 x.user, Value.int IntKind.i64 x.op, Value.int IntKind.i64 x.status, Value.int IntKind.i64 x.tick] 33) = W1 at *
  have e0 := cb.is 0 rfl
  have e1 := cb.is 1 rfl
  have e2 := cb.is 2 rfl
  have e3 := cb.is 3 rfl
  have hB1 := hB.drew
  generalize hw : w.heap.size = g at *
  have hg : g < W1.heap.size := cb.lt
  have HW := Lib.hid hw
  clear cb hw hB1
  go_region_held3 (fun w' => w'.cell? ⟨g, 0, none⟩ = some (.int .i64 x.user) ∧ w'.cell? ⟨g, 1, none⟩ = some (.int .i64 x.op) ∧ w'.cell? ⟨g, 2, none⟩ = some (.int .i64 x.status) ∧ w'.cell? ⟨g, 3, none⟩ = some (.int .i64 x.tick) ∧ W1.heap.size ≤ w'.heap.size ∧ Below g W1 w')
    (first
      | exact ⟨e0, e1, e2, e3, Nat.le_refl _, (Below.refl _ _).drew⟩
      | (go_split_ands
         refine ⟨?_, ?_, ?_, ?_, ?_, ?_⟩
         · ((first | refine (World.cell?_of_block (hb.block g (by omega))).trans ?_ | refine (World.cell?_of_block (hb.block g (by change g < W1.heap.size; omega))).trans ?_); assumption)
         · ((first | refine (World.cell?_of_block (hb.block g (by omega))).trans ?_ | refine (World.cell?_of_block (hb.block g (by change g < W1.heap.size; omega))).trans ?_); assumption)
         · ((first | refine (World.cell?_of_block (hb.block g (by omega))).trans ?_ | refine (World.cell?_of_block (hb.block g (by change g < W1.heap.size; omega))).trans ?_); assumption)
         · ((first | refine (World.cell?_of_block (hb.block g (by omega))).trans ?_ | refine (World.cell?_of_block (hb.block g (by change g < W1.heap.size; omega))).trans ?_); assumption)
         · (have hq := hb.size; first | omega | (change W1.heap.size ≤ _ at hq; omega))
         · (first | (refine Below.trans (by assumption) (hb.mono (by omega))) | (refine (Below.refl g W1).drew.trans (hb.mono (by change _ ≤ W1.heap.size; omega)))))
      | go_keep)
    (first
      | (go_at_call 18; refine (put_nil x _).mono ?_; rintro e w' ⟨rfl, hb⟩)
      | (go_at_call 22; refine (skip_nil _ _).mono ?_; rintro e w' ⟨rfl, hb⟩)
      | (go_at_call 12; refine (own_none _ _ _).mono ?_; rintro e w' ⟨A, c, rfl, hb⟩)
      | (go_at_call 19; refine (drain_nil _ _).mono ?_; rintro e w' ⟨rfl, hb⟩)
      | (go_at_call 20; refine (left_nil _).mono ?_; rintro e w' ⟨rfl, hb⟩)
      | (go_at_call 15; refine (len_nil _).mono ?_; rintro e w' ⟨rfl, hb⟩)
      | (go_at_call 21; refine (past_nil _).mono ?_; rintro e w' ⟨rfl, hb⟩)
      | (go_at_call 16; refine (count_nil _ _).mono ?_; rintro e w' ⟨rfl, hb⟩)
      | (go_at_call 9; refine (known_ok _).mono ?_; rintro e w' ⟨rfl, hb⟩))
  go_wp2
  go_ret
  have hs : ∀ w' : World, Below g W1 w' → Below w.heap.size w w' := fun w' h => by rw [HW.out]; exact hB.trans h
  go_split_ands
  exact ⟨rfl, hs _ (by assumption)⟩

section
variable {H : Type} {enc : TypeId × Value → H} {w : World} {base : Nat} {spare : Nat → Bool} {held : Bool}
theorem open_ev {r : Reach} {b0 : Nat} {v : Value} {d : DataW H} {ps : List MemPlace} (hv : Value.okWide Try.prog w r b0 33 v) (h : DataW.Trod enc Try.prog w base spare held 33 v d ps) : ∃ x : Ev, v = evV x := by
  obtain ⟨cs, rfl, hsz⟩ := okWide_struct Try.underlying33 hv
  obtain ⟨l⟩ := cs
  obtain ⟨fuel, hf⟩ := h
  have hl : l.length = 4 := hsz.trans (by kernel_rfl)
  obtain ⟨a, rfl, _⟩ := trod_ev _ _ _ hf hl
  exact ⟨a, rfl⟩
end

theorem auditNil_lifted (os : Os) (started : os.Started) (H : Type) (enc : TypeId × Value → H) :
    ReturnsInHanded {} Try.checked os 8 .any (Rows.auditNilSpec.pre6 enc Try.prog Try.f8 Rows.auditNilRow.domain false) (Rows.auditNilSpec.post enc Try.prog Try.f8 false true false false) := by
  refine law_lifts (C := Try.checked) knob_none laid_out started (by kernel_rfl) Try.func8 Try.underlying4 rfl (fun t ht => ?_) rfl (fun ds hd => ?_)
    (ChangeSpec.witness6 (enc := enc) (C := Try.checked) false ⟨#[], #[.agg #[.int .i64 0, .int .i64 0, .int .i64 0, .int .i64 0], .int .i64 0], []⟩ 8 (by kernel_rfl) (by kernel_rfl) (by kernel_rfl) (by kernel_rfl)) ?_
  · have h : ([3, 33] : List TypeId).all (fun t => Try.prog.readableRec t && decide (t < Try.prog.types.size)) = true := by kernel_rfl
    have hm : t ∈ ([3, 33] : List TypeId) := by
      have : t ∈ ([33, 3] : List TypeId) := ht
      simp only [List.mem_cons, List.not_mem_nil, or_false] at this ⊢
      rcases this with rfl | rfl <;> simp
    have := List.all_eq_true.1 h t hm
    simp only [Bool.and_eq_true, decide_eq_true_eq] at this
    exact this
  · match ds, hd with
    | [d1, d2], _ => exact ⟨rfl, rfl, rfl⟩
  · intro W base args ds ps hval hA
    have hA' : DataW.TrodAll enc Try.prog W 0 (fun _ => true) true [33, 3] args.toList ds ps := hA
    obtain ⟨v0, v1, d0, d1, p0, p1, rfl, rfl, rfl, h0, h1⟩ := trodAll_two hA'
    obtain ⟨x, rfl⟩ := open_ev (hval 0 33 v0 rfl rfl) h0
    obtain ⟨b, rfl, -⟩ := open_int Try.underlying3 (hval 1 3 v1 rfl rfl) h1
    exact law_nil x b W

theorem auditNil_holds : Rows.AuditNilSaid :=
  OpenClaim.holds_of_wide 8 Try.f8 rfl rfl rfl rfl rfl rfl rfl ⟨rfl, rfl, rfl, rfl, rfl⟩ rfl rfl rfl rfl rfl (by kernel_rfl) Try.func8 (by kernel_rfl)
    (of_decide_eq_true (by kernel_rfl)) (by unfold Func.isWrapper; rw [if_neg (of_decide_eq_false (by kernel_rfl))]; exact ⟨rfl, rfl⟩)
    (fun os started H enc _ => auditNil_lifted os started H enc)
end Go.Proofs.Ytnkgdabapgdiaaa
