/-
  The laws' own helpers: ev, known (what must come of fixed calls), filled. Conditions: filled: at most 200 events.
-/
import Derived.Test.YtnkgdabapgdiaaaIter
import Derived.Test.YtnkgdabapgdiaaaArgs
namespace Go.Proofs.Ytnkgdabapgdiaaa
open Go.RowKit

set_option maxHeartbeats 400000 in
theorem ev_ok (u o : Int) (w : World) : Calls Try.prog 23 #[.int .i64 u, .int .i64 o] w fun e w' => e = .returned (evV ⟨u, o, 0, 0⟩) ∧ Below w.heap.size w w' := by
  go_enter Try.func23, Try.ntmps23
  go_wp2
  refine bodyPost_ret (v := evV ⟨u, o, 0, 0⟩) ?_ rfl ⟨rfl, (Below.refl _ _).alloc (Nat.le_refl _) _⟩
  simp [results, Try.results23, go_sem]

set_option maxHeartbeats 1000000 in
theorem known_ok (w : World) : Calls Try.prog 9 #[] w fun e w' => e = .returned (.bool true) ∧ Below w.heap.size w w' := by
  go_enter Try.func9, Try.ntmps9
  go_wp2_with fail
  refine (new_ok _).mono ?_
  rintro e w1 ⟨rfl, rfl⟩
  have t0 := Trl.made w
  have B0 := (Below.refl w.heap.size w).alloc (Nat.le_refl _) (.cells #[.slice none 0 0, .int .i64 0] 52)
  generalize w.alloc (Obj.cells #[Value.slice none 0 0, Value.int IntKind.i64 0] 52) = w1 at *
  go_wp2_with fail
  refine (ev_ok _ _ _).mono ?_
  rintro e v0 ⟨rfl, hv0⟩
  have s0 := t0.below hv0
  have C0 := B0.trans (hv0.mono B0.size)
  clear hv0 t0 B0
  go_wp2_with fail
  refine (put_ok _ _ _ _ _ ⟨1, 8, 0, 0⟩ s0 (by simp)).mono ?_
  rintro e u0 ⟨rfl, p0, q0, -⟩
  have D0 := C0.trans q0
  clear s0 q0 C0
  go_wp2_with fail
  refine (ev_ok _ _ _).mono ?_
  rintro e v1 ⟨rfl, hv1⟩
  have s1 := p0.below hv1
  have C1 := D0.trans (hv1.mono D0.size)
  clear hv1 p0 D0
  go_wp2_with fail
  refine (put_ok _ _ _ _ _ ⟨2, 8, 0, 0⟩ s1 (by simp)).mono ?_
  rintro e u1 ⟨rfl, p1, q1, -⟩
  have D1 := C1.trans q1
  clear s1 q1 C1
  go_wp2_with fail
  refine (ev_ok _ _ _).mono ?_
  rintro e v2 ⟨rfl, hv2⟩
  have s2 := p1.below hv2
  have C2 := D1.trans (hv2.mono D1.size)
  clear hv2 p1 D1
  go_wp2_with fail
  refine (put_ok _ _ _ _ _ ⟨1, 9, 0, 0⟩ s2 (by simp)).mono ?_
  rintro e u2 ⟨rfl, p2, q2, -⟩
  have D2 := C2.trans q2
  clear s2 q2 C2
  go_wp2_with fail
  simp only [List.nil_append, List.cons_append] at p2
  refine (own_ok _ _ _ _ _ 1 1 9 (by simp) p2).mono ?_
  rintro e w4 ⟨a, rfl, ha, hb4⟩
  have p4 := p2.below hb4
  have E4 := D2.trans (hb4.mono D2.size)
  have la : pageL (ownL [⟨1, 8, 0, 0⟩, ⟨2, 8, 0, 0⟩, ⟨1, 9, 0, 0⟩] 1) 1 9 = [⟨1, 9, 0, 0⟩] := by decide
  rw [la] at ha
  have hrow4 : ∀ x, a.ownBlock = some x → ¬ Row w4 w.heap.size x := by
    rintro x hx ⟨s, hs, hsx⟩
    obtain ⟨s2, h1, h2, h3⟩ := p2
    have hc := (h1.below hb4 h1.lt).is 0 rfl
    rw [hc] at hs
    cases hs
    have := (h3.lt x hsx).2
    have := (ha.lt x hx).1
    omega
  have hab4 : a.ownBlock ≠ some w.heap.size := by
    obtain ⟨s2, h1, h2, h3⟩ := p4
    exact ha.ne_blk h1 (by decide)
  clear p2 D2 hb4 la
  go_wp2_with fail
  refine (drain_ok _ _ _ _ _ 2 p4 (by simp) (by omega) (by omega)).mono ?_
  rintro e w5 ⟨d, rfl, hd, p5, hb5, hf5, -⟩
  have E5 := E4.trans hb5
  have ha5 := hf5.own ha hab4 hrow4
  have ld : List.take (takes [⟨1, 8, 0, 0⟩, ⟨2, 8, 0, 0⟩, ⟨1, 9, 0, 0⟩] 2) ([⟨1, 8, 0, 0⟩, ⟨2, 8, 0, 0⟩, ⟨1, 9, 0, 0⟩] : List Ev) = [⟨1, 8, 0, 0⟩, ⟨2, 8, 0, 0⟩] := by decide
  have lr : List.drop (takes [⟨1, 8, 0, 0⟩, ⟨2, 8, 0, 0⟩, ⟨1, 9, 0, 0⟩] 2) ([⟨1, 8, 0, 0⟩, ⟨2, 8, 0, 0⟩, ⟨1, 9, 0, 0⟩] : List Ev) = [⟨1, 9, 0, 0⟩] := by decide
  have lp : (0 : Int) + min ((takes [⟨1, 8, 0, 0⟩, ⟨2, 8, 0, 0⟩, ⟨1, 9, 0, 0⟩] 2 : Nat) : Int) (4611686018427387903 - 0) = 2 := by decide
  rw [ld] at hd
  rw [lr, lp] at p5
  obtain ⟨Ad, cd, rfl⟩ := hd.form
  clear hd ld lr lp hf5 hb5 ha hrow4 hab4 p4 E4
  go_wp2_with fail
  refine (ev_ok _ _ _).mono ?_
  rintro e w6 ⟨rfl, hb6⟩
  have p6 := p5.below hb6
  have E6 := E5.trans (hb6.mono E5.size)
  have ha6 := ha5.keep (w' := w6) fun x hx => hb6.block x (ha5.lt x hx).2
  clear p5 E5 ha5 hb6
  go_wp2_with fail
  have hsl : Sl evC (w6.alloc (.cells (evA ⟨1, 9, 0, 0⟩) 33)) (w6.alloc (.cells (evA ⟨1, 9, 0, 0⟩) 33)).heap.size (.slice (some ⟨w6.heap.size, 0, none⟩) 1 1) [⟨1, 9, 0, 0⟩] :=
    ⟨_, 1, rfl, Nat.le_refl _, by unfold maxLen; omega, fun _ => ⟨_, 0, rfl, by simp, (Blk.new w6 33 (evA ⟨1, 9, 0, 0⟩)).lay⟩⟩
  have p7 := p6.below ((Below.refl w6.heap.size w6).alloc (Nat.le_refl _) (.cells (evA ⟨1, 9, 0, 0⟩) 33))
  have E7 := E6.alloc E6.size (.cells (evA ⟨1, 9, 0, 0⟩) 33)
  have ha7 := ha6.alloc (.cells (evA ⟨1, 9, 0, 0⟩) 33)
  refine (same_ok _ _ _ _ _ _ ha7.sl hsl).mono ?_
  rintro e w8 ⟨rfl, n8, rfl⟩
  clear hsl p6 E6 ha6
  go_wp2_with fail
  refine (own_ok _ _ _ _ _ 1 0 9 (by simp) (p7.drewN n8)).mono ?_
  rintro e w9 ⟨c, rfl, hc, hb9⟩
  have la : pageL (ownL [⟨1, 9, 0, 0⟩] 1) 0 9 = [⟨1, 9, 0, 0⟩] := by decide
  rw [la] at hc
  have p9 := (p7.drewN n8).below hb9
  have E9 := (below_drewN E7 n8).trans (hb9.mono E7.size)
  have ha9 := (ha7.drewN n8).keep (w' := w9) fun x hx => hb9.block x (ha7.lt x hx).2
  clear la p7 E7 ha7 hb9
  go_wp2_with fail
  refine (same_ok _ _ _ _ _ _ hc.sl ha9.sl).mono ?_
  rintro e w10 ⟨rfl, n10, rfl⟩
  have p10 := p9.drewN n10
  have E10 := below_drewN E9 n10
  clear hc p9 E9 ha9
  go_wp2_with fail
  refine (past_ok _ _ _ _ _ p10).mono ?_
  rintro e w11 ⟨rfl, rfl⟩
  go_wp2_with fail
  refine (len_ok _ _ _ _ _ p10).mono ?_
  rintro e w12 ⟨rfl, rfl⟩
  go_wp2_with fail
  go_ret
  exact ⟨rfl, E10⟩

set_option maxRecDepth 100000 in
set_option maxHeartbeats 1000000 in
theorem filled_ok (l : List Ev) (s : Value) (w : World) (B : Nat) (hs : Sl evC w B s l) (hB : B ≤ w.heap.size) (hlen : l.length ≤ 200) :
    Calls Try.prog 10 #[s] w fun e w' => e = .returned (.pointer (some ⟨w.heap.size, 0, none⟩)) ∧ Trl w' w.heap.size w.heap.size l 0 ∧ Below w.heap.size w w' := by
  obtain ⟨A, ca, rfl, h1, h2, h3⟩ := hs
  unfold maxLen at h2
  go_enter Try.func10, Try.ntmps10
  go_wp2_with fail
  refine (new_ok _).mono ?_
  rintro e w1 ⟨rfl, rfl⟩
  have t0 := Trl.made w
  have B0 := (Below.refl w.heap.size w).alloc (Nat.le_refl _) (.cells #[.slice none 0 0, .int .i64 0] 52)
  generalize w.alloc (Obj.cells #[Value.slice none 0 0, Value.int IntKind.i64 0] 52) = w1 at *
  go_wp2_with fail
  go_loopw [4] (fun i wr => ∃ k : Nat, k ≤ l.length ∧ i = .int .i64 k ∧ Trl wr w.heap.size w.heap.size (l.take k) 0 ∧ Below w.heap.size w wr) (fun i _ => (l.length - intOf i).toNat)
  case atStart => exact ⟨0, Nat.zero_le _, rfl, by simpa using t0, B0⟩
  case round =>
    obtain ⟨k, hk, rfl, ht, hbel⟩ := hrel
    by_cases hlt : k < l.length
    · obtain ⟨b, off, rfl, hb, hl⟩ := h3 (by omega)
      obtain ⟨x0, x1, x2, x3⟩ := ((hl.of_heap (hbel.block b (by omega))).elem evC_len k hlt).ev
      clear hl h3
      have hle2 : (l.take k).length ≤ k := List.length_take_le _ _
      go_wp2_with fail
      refine (put_ok _ _ _ _ _ l[k] ht (by omega)).mono ?_
      rintro e w2 ⟨rfl, p2, q2, -⟩
      go_wp2_with fail
      go_roundw
      case rel => exact ⟨k + 1, by omega, by go_num, by rw [List.take_succ_eq_append_getElem hlt]; exact p2, hbel.trans q2⟩
      case measure => simp [intOf]; omega
    · obtain rfl : k = l.length := by omega
      rw [List.take_length] at ht
      go_wp2_with fail
      go_ret
      exact ⟨rfl, ht, hbel⟩

end Go.Proofs.Ytnkgdabapgdiaaa
