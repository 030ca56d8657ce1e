/-
  AuditOthers holds: what others do turns nothing of one's own events. Conditions: none.
-/
import Derived.Test.YtnkgdabapgdiaaaLawOwn
namespace Go.Proofs.Ytnkgdabapgdiaaa
open Go.RowKit Go.ChangeShapes Go.WideShapes

theorem ownL_app (a b : List Ev) (user : Int) : ownL (a ++ b) user = ownL a user ++ ownL b user := by unfold ownL; exact List.filter_append ..
theorem ownL_one_no {x : Ev} {user : Int} (h : (x.user == user) = false) : ownL [x] user = [] := by unfold ownL; simp [h]

set_option maxRecDepth 100000 in
set_option maxHeartbeats 4000000 in
theorem law_others (l m : List Ev) (s t : Value) (user : Int) (w : World) (hs : Sl evC w w.heap.size s l) (ht : Sl evC w w.heap.size t m) :
    Calls Try.prog 5 #[s, t, .int .i64 user] w (Holds w) := by
  have hs' := hs
  have ht' := ht
  obtain ⟨A, ca, rfl, h1, h2, h3⟩ := hs'
  obtain ⟨A', ca', rfl, g1, g2, g3⟩ := ht'
  unfold maxLen at h2 g2
  by_cases hlen : l.length ≤ 90 ∧ m.length ≤ 90
  · obtain ⟨hll, hml⟩ := hlen
    go_enter Try.func5, Try.ntmps5
    go_wp2_with fail
    refine (filled_ok l _ w _ hs (Nat.le_refl _) (by omega)).mono ?_
    rintro e w1 ⟨rfl, t1, b1⟩
    have H3 := Lib.hid h3
    have G3 := Lib.hid g3
    clear hs ht h3 g3
    go_wp2_with fail
    refine (new_ok _).mono ?_
    rintro e w2 ⟨rfl, rfl⟩
    have t0 := Trl.made w1
    have B0 := (Below.refl w1.heap.size w1).alloc (Nat.le_refl _) (.cells #[.slice none 0 0, .int .i64 0] 52)
    have HB1 := Lib.hid b1
    have HT1 := Lib.hid t1
    generalize w1.alloc (Obj.cells #[Value.slice none 0 0, Value.int IntKind.i64 0] 52) = w2 at *
    have T0 := Lib.hid t0
    have B0' := Lib.hid B0
    have hsz1 := b1.size
    clear t0 B0 b1 t1
    go_wp2_with fail
    go_loopw [9] (fun iv wr => ∃ k U, k ≤ 90 ∧ iv = .int .i64 (k : Nat) ∧ U.length ≤ 2 * k ∧ ownL U user = ownL (l.take k) user ∧ Trl wr w1.heap.size w1.heap.size U 0 ∧ Below w1.heap.size w1 wr) (fun iv _ => (90 - intOf iv).toNat)
    case atStart => exact ⟨0, [], by omega, rfl, by simp, by simp, T0.out, B0'.out⟩
    case round =>
      obtain ⟨k, U, hk, rfl, hUk, hU, hT, hB⟩ := hrel
      have hBw := Lib.hid (HB1.out.trans (hB.mono HB1.out.size))
      have HU := Lib.hid hU
      have HT := Lib.hid hT
      have HB := Lib.hid hB
      clear hU hT hB
      by_cases hkl : k < l.length
      · obtain ⟨lb, lo, rfl, hlb, hlay⟩ := H3.out (by omega)
        have hel := ((hlay.of_heap (hBw.out.block lb hlb)).elem evC_len k hkl)
        have HTk := Lib.hid (@List.take_succ_eq_append_getElem _ k l hkl)
        by_cases hkm : k < m.length
        · obtain ⟨mb, mo, rfl, hmb, hmlay⟩ := G3.out (by omega)
          have hmel := ((hmlay.of_heap (hBw.out.block mb hmb)).elem evC_len k hkm)
          obtain ⟨y0, y1, y2, y3⟩ := hmel.ev
          obtain ⟨x0, x1, x2, x3⟩ := hel.ev
          clear hlay hmlay
          cases hu : (m[k].user == user)
          · have hu2 : (m[k].user != user) = true := by rw [bne, hu]; rfl
            have HU2 := Lib.hid (ownL_one_no hu)
            go_wp2_with fail
            refine (put_ok _ _ _ _ _ m[k] HT.out (by omega)).mono ?_
            rintro e w5 ⟨rfl, p5, q5, -⟩
            have HP5 := Lib.hid p5
            have HQ5 := Lib.hid q5
            have hel5 := ((H3.out (by omega)).elim fun b hb => hb.elim fun o ho => (⟨b, o, ho.1, ((ho.2.2.of_heap (hBw.out.block b ho.2.1)).of_heap (q5.block b (by have := ho.2.1; omega))).elem evC_len k hkl⟩ : ∃ b o, some (Addr.mk lb lo none) = some ⟨b, o, none⟩ ∧ Lay w5 b (o + k * 4) (evC l[k])))
            obtain ⟨b9, o9, e9, l9⟩ := hel5
            cases e9
            obtain ⟨z0, z1, z2, z3⟩ := l9.ev
            clear p5 q5 x0 x1 x2 x3 y0 y1 y2 y3 hel hmel l9
            go_wp2_with fail
            refine (put_ok _ _ _ _ _ l[k] HP5.out (by simp; omega)).mono ?_
            rintro e w6 ⟨rfl, p6, q6, -⟩
            have HP6 := Lib.hid p6
            have HQ6 := Lib.hid q6
            clear p6 q6 z0 z1 z2 z3
            go_wp2_with fail
            go_roundw
            case rel =>
              refine ⟨k + 1, U ++ [m[k]] ++ [l[k]], by omega, by go_num, by simp; omega, ?_, HP6.out, HB.out.trans (HQ5.out.trans HQ6.out)⟩
              rw [HTk.out, ownL_app, ownL_app, ownL_app, HU2.out, HU.out, List.append_nil]
            case measure => simp [intOf]; omega
          · have hu2 : (m[k].user != user) = false := by rw [bne, hu]; rfl
            go_wp2_with fail
            refine (put_ok _ _ _ _ _ l[k] HT.out (by omega)).mono ?_
            rintro e w6 ⟨rfl, p6, q6, -⟩
            have HP6 := Lib.hid p6
            have HQ6 := Lib.hid q6
            clear p6 q6 x0 x1 x2 x3 y0 y1 y2 y3 hel hmel
            go_wp2_with fail
            go_roundw
            case rel =>
              refine ⟨k + 1, U ++ [l[k]], by omega, by go_num, by simp; omega, ?_, HP6.out, HB.out.trans HQ6.out⟩
              rw [HTk.out, ownL_app, ownL_app, HU.out]
            case measure => simp [intOf]; omega
        · obtain ⟨x0, x1, x2, x3⟩ := hel.ev
          clear hlay hel
          go_wp2_with fail
          refine (put_ok _ _ _ _ _ l[k] HT.out (by omega)).mono ?_
          rintro e w6 ⟨rfl, p6, q6, -⟩
          have HP6 := Lib.hid p6
          have HQ6 := Lib.hid q6
          clear p6 q6 x0 x1 x2 x3
          go_wp2_with fail
          go_roundw
          case rel =>
            refine ⟨k + 1, U ++ [l[k]], by omega, by go_num, by simp; omega, ?_, HP6.out, HB.out.trans HQ6.out⟩
            rw [HTk.out, ownL_app, ownL_app, HU.out]
          case measure => simp [intOf]; omega
      · have HTk := Lib.hid (show l.take (k + 1) = l.take k by rw [List.take_of_length_le (by omega), List.take_of_length_le (by omega)])
        by_cases hkm : k < m.length
        · obtain ⟨mb, mo, rfl, hmb, hmlay⟩ := G3.out (by omega)
          have hmel := ((hmlay.of_heap (hBw.out.block mb hmb)).elem evC_len k hkm)
          obtain ⟨y0, y1, y2, y3⟩ := hmel.ev
          clear hmlay hmel
          cases hu : (m[k].user == user)
          · have hu2 : (m[k].user != user) = true := by rw [bne, hu]; rfl
            have HU2 := Lib.hid (ownL_one_no hu)
            go_wp2_with fail
            refine (put_ok _ _ _ _ _ m[k] HT.out (by omega)).mono ?_
            rintro e w5 ⟨rfl, p5, q5, -⟩
            have HP5 := Lib.hid p5
            have HQ5 := Lib.hid q5
            clear p5 q5 y0 y1 y2 y3
            go_wp2_with fail
            go_roundw
            case rel =>
              refine ⟨k + 1, U ++ [m[k]], by omega, by go_num, by simp; omega, ?_, HP5.out, HB.out.trans HQ5.out⟩
              rw [HTk.out, ownL_app, HU2.out, HU.out, List.append_nil]
            case measure => simp [intOf]; omega
          · have hu2 : (m[k].user != user) = false := by rw [bne, hu]; rfl
            go_wp2_with fail
            go_roundw
            case rel => exact ⟨k + 1, U, by omega, by go_num, by omega, by rw [HTk.out]; exact HU.out, HT.out, HB.out⟩
            case measure => simp [intOf]; omega
        · have HTk2 := Lib.hid (show l.take k = l from List.take_of_length_le (by omega))
          go_wp2_with fail
          refine (own_ok _ _ _ _ _ user 0 200 (by omega) (HT1.out.below HB.out)).mono ?_
          rintro e w6 ⟨v6, rfl, o6, b6⟩
          have T6 := Lib.hid (HT.out.below b6)
          have T1 := Lib.hid ((HT1.out.below HB.out).below b6)
          have B6 := Lib.hid (hBw.out.trans (b6.mono hBw.out.size))
          have O6 := Lib.hid o6
          clear o6 b6
          go_wp2_with fail
          refine (own_ok _ _ _ _ _ user 0 200 (by omega) T6.out).mono ?_
          rintro e w7 ⟨v7, rfl, o7, b7⟩
          have hsl6 := (O6.out.sl.below b7).more b7.size
          have T7 := Lib.hid (T6.out.below b7)
          have T17 := Lib.hid (T1.out.below b7)
          have B7 := Lib.hid (B6.out.trans (b7.mono B6.out.size))
          rw [HU.out, HTk2.out] at o7
          have O7 := Lib.hid o7
          have S6 := Lib.hid hsl6
          clear o7 b7 hsl6
          go_wp2_with fail
          refine (same_ok _ _ _ _ _ _ S6.out O7.out.sl).mono ?_
          rintro e w8 ⟨rfl, n8, rfl⟩
          rw [decide_eq_true (rfl : pageL (ownL l user) 0 200 = _)]
          go_wp2_with fail
          refine (count_ok _ _ _ _ _ user (by omega) (T17.out.drewN n8)).mono ?_
          rintro e w9 ⟨rfl, b9⟩
          have B9 := Lib.hid ((below_drewN B7.out n8).trans (b9.mono B7.out.size))
          have T9 := Lib.hid ((T7.out.drewN n8).below b9)
          clear b9
          go_wp2_with fail
          refine (count_ok _ _ _ _ _ user (by omega) T9.out).mono ?_
          rintro e w10 ⟨rfl, b10⟩
          rw [HU.out, HTk2.out]
          have B10 := Lib.hid (B9.out.trans (b10.mono B9.out.size))
          clear b10
          go_wp2_with fail
          refine (known_ok _).mono ?_
          rintro e w11 ⟨rfl, b11⟩
          go_wp2_with fail
          go_ret
          exact ⟨rfl, B10.out.trans (b11.mono B10.out.size)⟩
  · go_enter Try.func5, Try.ntmps5
    by_cases hl2 : l.length ≤ 90
    · have hm2 : ¬ m.length ≤ 90 := fun h => hlen ⟨hl2, h⟩
      clear hlen
      go_wp2_with fail
      refine (known_ok _).mono ?_
      rintro e w7 ⟨rfl, b7⟩
      go_wp2_with fail
      go_ret
      exact ⟨rfl, b7⟩
    · clear hlen
      go_wp2_with fail
      refine (known_ok _).mono ?_
      rintro e w7 ⟨rfl, b7⟩
      go_wp2_with fail
      go_ret
      exact ⟨rfl, b7⟩

theorem auditOthers_lifted (os : Os) (started : os.Started) (H : Type) (enc : TypeId × Value → H) :
    ReturnsInHanded {} Try.checked os 5 .any (Rows.auditOthersSpec.pre6 enc Try.prog Try.f5 Rows.auditOthersRow.domain false) (Rows.auditOthersSpec.post enc Try.prog Try.f5 false true false false) := by
  refine law_lifts (C := Try.checked) knob_none laid_out started (by kernel_rfl) Try.func5 Try.underlying4 rfl (fun t ht => ?_) rfl (fun ds hd => ?_)
    (ChangeSpec.witness6 (enc := enc) (C := Try.checked) false ⟨#[], #[.slice none 0 0, .slice none 0 0, .int .i64 0], []⟩ 8 (by kernel_rfl) (by kernel_rfl) (by kernel_rfl) (by kernel_rfl)) ?_
  · have h : ([3, 22] : List TypeId).all (fun t => Try.prog.readableRec t && decide (t < Try.prog.types.size)) = true := by kernel_rfl
    have hm : t ∈ ([3, 22] : List TypeId) := by
      have : t ∈ ([22, 22, 3] : List TypeId) := ht
      simp only [List.mem_cons, List.not_mem_nil, or_false] at this ⊢
      rcases this with rfl | rfl | rfl <;> simp
    have := List.all_eq_true.1 h t hm
    simp only [Bool.and_eq_true, decide_eq_true_eq] at this
    exact this
  · match ds, hd with
    | [d1, d2, d3], _ => exact ⟨rfl, rfl, rfl⟩
  · intro W base args ds ps hval hA
    have hA' : DataW.TrodAll enc Try.prog W 0 (fun _ => true) true [22, 22, 3] args.toList ds ps := hA
    obtain ⟨v0, v1, v2, d0, d1, d2, p0, p1, p2, rfl, rfl, rfl, h0, h1, h2⟩ := trodAll_three hA'
    obtain ⟨l, hl⟩ := open_evs (hval 0 22 v0 rfl rfl) h0
    obtain ⟨m, hm⟩ := open_evs (hval 1 22 v1 rfl rfl) h1
    obtain ⟨b, rfl, -⟩ := open_int Try.underlying3 (hval 2 3 v2 rfl rfl) h2
    exact law_others l m v0 v1 b W hl hm

theorem auditOthers_holds : Rows.AuditOthersSaid :=
  OpenClaim.holds_of_wide 5 Try.f5 rfl rfl rfl rfl rfl rfl rfl ⟨rfl, rfl, rfl, rfl, rfl⟩ rfl rfl rfl rfl rfl (by kernel_rfl) Try.func5 (by kernel_rfl)
    (of_decide_eq_true (by kernel_rfl)) (by unfold Func.isWrapper; rw [if_neg (of_decide_eq_false (by kernel_rfl))]; exact ⟨rfl, rfl⟩)
    (fun os started H enc _ => auditOthers_lifted os started H enc)
end Go.Proofs.Ytnkgdabapgdiaaa
