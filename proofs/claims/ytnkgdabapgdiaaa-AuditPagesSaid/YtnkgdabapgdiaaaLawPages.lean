/-
  AuditPages holds: a user's own events, page by page, are all of them, each once. Conditions: none.
-/
import Derived.Test.YtnkgdabapgdiaaaLawOwn
namespace Go.Proofs.Ytnkgdabapgdiaaa
open Go.RowKit Go.ChangeShapes Go.WideShapes

theorem page_at {xs : List Ev} {m : Nat} {wide : Int} (hw : 1 ≤ wide) :
    (pageL xs m wide).length ≤ xs.length - m ∧ (m < xs.length → 0 < (pageL xs m wide).length) ∧ ∀ j, j ≤ (pageL xs m wide).length → xs.take m ++ (pageL xs m wide).take j = xs.take (m + j) := by
  have e : pageL xs m wide = (xs.drop m).take wide.toNat := by unfold pageL; rw [if_neg (by omega), Int.toNat_natCast]
  rw [e]
  refine ⟨by simp; omega, fun h => by simp; omega, fun j hj => ?_⟩
  simp only [List.length_take] at hj
  rw [List.take_take, Nat.min_eq_left (by omega), List.take_add]

set_option maxRecDepth 100000 in
set_option maxHeartbeats 4000000 in
theorem law_pages (l : List Ev) (s : Value) (user wide : Int) (w : World) (hs : Sl evC w w.heap.size s l) :
    Calls Try.prog 4 #[s, .int .i64 user, .int .i64 wide] w (Holds w) := by
  have hs' := hs
  obtain ⟨A, ca, rfl, h1, h2, -⟩ := hs'
  unfold maxLen at h2
  by_cases hlen : l.length ≤ 200 ∧ 1 ≤ wide
  · obtain ⟨hlen, hwide⟩ := hlen
    go_enter Try.func4, Try.ntmps4
    go_wp2_with fail
    refine (filled_ok l _ w _ hs (Nat.le_refl _) hlen).mono ?_
    rintro e w1 ⟨rfl, t1, b1⟩
    have HS := Lib.hid hs
    clear hs
    obtain ⟨xs, hxs⟩ : ∃ xs, xs = ownL l user := ⟨_, rfl⟩
    have hxl : xs.length ≤ 200 := by rw [hxs]; have := ownL_len l user; omega
    have HX := Lib.hid hxs
    have HB1 := Lib.hid b1
    have HT1 := Lib.hid t1
    clear hxs b1 t1
    go_wp2_with fail
    go_loopw [8, 9] (fun av iv wr => ∃ m i A c, m ≤ xs.length ∧ i ≤ m ∧ iv = .int .i64 (i : Nat) ∧ av = .slice A m c ∧ Own evC 4 33 wr w1.heap.size av (xs.take m) ∧ Below w1.heap.size w1 wr) (fun _ iv _ => (201 - intOf iv).toNat)
    case atStart => exact ⟨0, 0, none, 0, Nat.zero_le _, Nat.le_refl _, rfl, rfl, by simpa using Own.nil, Below.refl _ _⟩
    case round =>
      obtain ⟨m, i, A', c', hm, him, rfl, rfl, hown, hbel⟩ := hrel
      obtain ⟨wo, rfl⟩ : ∃ wo : World, wo = wr := ⟨_, rfl⟩
      have ht := Lib.hid (HT1.out.below hbel)
      go_wp2_with fail
      refine (own_ok _ _ _ _ _ user m wide (by omega) ht.out).mono ?_
      rintro e w3 ⟨p, rfl, hp, hb3⟩
      rw [← HX.out] at hp
      have hown3 := hown.keep (w' := w3) fun x hx => hb3.block x (hown.lt x hx).2
      have hbel3 := hbel.trans (hb3.mono hbel.size)
      have hlt0 : ∀ x, (Value.slice A' m c').ownBlock = some x → x < wo.heap.size := fun x hx => (hown.lt x hx).2
      clear hown hbel
      obtain ⟨hq1, hq2, hq3⟩ := @page_at xs m wide hwide
      generalize pageL xs (m : Int) wide = q at hp hq1 hq2 hq3
      have HQ := Lib.hid hq3
      clear hq3
      by_cases hmt : m < xs.length
      · have hqp := hq2 hmt
        obtain ⟨pb, pc, rfl, hpb1, hpb2⟩ := World.ownsRow.form hp hqp
        have hlay : Lay w3 pb 0 (q.flatMap evC) := by
          obtain ⟨A5, c5, e5, _, _, h5⟩ := hp.sl
          obtain ⟨b6, o6, e6, _, h6⟩ := h5 hqp
          injection e5 with e7 e8 e9
          rw [← e7] at e6
          cases e6
          exact h6
        have HLay := Lib.hid hlay
        have hown3' := Lib.hid hown3
        have hbel3' := Lib.hid hbel3
        have hsz3 := hbel3.size
        have hnb : ∀ x, (Value.slice A' m c').ownBlock = some x → x ≠ pb := fun x hx e => by have := hlt0 x hx; omega
        have HN := Lib.hid hnb
        have HT3 := Lib.hid (HT1.out.below hbel3)
        have hq0 : ((q.length : Int) == 0) = false := by rw [beq_eq_false_iff_ne]; omega
        clear hlay hq2 hown3 hbel3 hlt0 hnb hp
        go_wp2_with fail
        go_loopw [8, 11] (fun av kv wr => ∃ j A c, j ≤ q.length ∧ kv = .int .i64 (j : Nat) ∧ av = .slice A (m + j) c ∧ Own evC 4 33 wr w1.heap.size av (xs.take (m + j)) ∧ (∀ x, av.ownBlock = some x → x ≠ pb) ∧ wr.heap[pb]? = w3.heap[pb]? ∧ Below w1.heap.size w3 wr ∧ w3.heap.size ≤ wr.heap.size) (fun _ kv _ => (q.length - intOf kv).toNat)
        case atStart => exact ⟨0, A', c', Nat.zero_le _, rfl, rfl, hown3'.out, HN.out, rfl, Below.refl _ _, Nat.le_refl _⟩
        case round =>
          obtain ⟨j, A7, c7, hj, rfl, rfl, ho, hne, hpb, hbl, hsz⟩ := hrel
          by_cases hjl : j < q.length
          · have hel := ((HLay.out.of_heap hpb).elem evC_len j hjl).ev
            simp only [Nat.zero_add] at hel
            obtain ⟨x0, x1, x2, x3⟩ := hel
            have hq := Lib.hid (show xs.take (m + j) ++ [q[j]] = xs.take (m + (j + 1)) by
              rw [← HQ.out j hj, ← HQ.out (j + 1) hjl, List.take_succ_eq_append_getElem hjl, List.append_assoc])
            have hlenmj : (xs.take (m + j)).length = m + j := by simp; omega
            have HO := Lib.hid ho
            have HN7 := Lib.hid hne
            have HPB := Lib.hid hpb
            have HBL := Lib.hid hbl
            clear ho hne hpb hbl
            have HL := Lib.hid hlenmj
            clear hlenmj
            go_wp2_with (at_builtin; refine app_one ev_elem ev_enc rfl (.tmp 41) (.tmp 46) rfl rfl (HO.out.alloc _) q[j] wr.heap.size 1 rfl (Blk.lay (Blk.new _ _ _)) (by unfold maxLen; rw [HL.out]; omega) (by rw [HL.out]; omega) (by simp; omega) ?_; intro g' cap w5 hown5 hgrow hat hlt5; rw [HL.out] at hown5; rw [HL.out])
            go_roundw
            case rel =>
              have hws := hgrow.size
              simp only [World.size_alloc] at hws
              refine ⟨j + 1, some ⟨g', 0, none⟩, cap, by omega, by go_num, by rw [Nat.add_assoc], by rw [← hq.out]; exact hown5, ?_, ?_, ?_, by omega⟩
              · intro x hx
                have hgx : g' = x := by simpa [Value.ownBlock] using hx
                rcases hat with hat | hat
                · exact HN7.out x (hat.trans (by rw [hgx]))
                · rw [World.size_alloc] at hat
                  omega
              · refine (hgrow.block pb (by rw [World.size_alloc]; omega) (fun e => HN7.out pb e.symm rfl)).trans ((Below.heap_alloc _ _ _ (by omega)).trans HPB.out)
              · exact (HBL.out.alloc (by omega) _).grown hgrow (by rw [World.size_alloc]; omega) (fun k e => (HO.out.lt k e).1)
            case measure => simp [intOf]; omega
          · obtain rfl : j = q.length := by omega
            go_wp2_with fail
            go_roundw
            case rel =>
              exact ⟨m + q.length, i + 1, A7, c7, by omega, by omega, by go_num, rfl, ho, hbel3'.out.trans hbl⟩
            case measure => simp [intOf]; omega
      · obtain rfl : m = xs.length := by omega
        have hq0 : q = [] := List.eq_nil_of_length_eq_zero (by omega)
        subst hq0
        obtain ⟨A5, c5, rfl⟩ := hp.form
        rw [List.take_length] at hown3
        have HO3 := Lib.hid hown3
        have HBL := Lib.hid hbel3
        clear hown3 hbel3 hp hq1 hq2
        go_wp2_with fail
        have hBall := Lib.hid (HB1.out.trans (HBL.out.mono HB1.out.size))
        refine (rown_ok l _ user w3 _ (HS.out.below hBall.out) hBall.out.size (by omega)).mono ?_
        rintro e w4 ⟨v4, rfl, o4, b4⟩
        have HO4 := Lib.hid (HO3.out.keep (w' := w4) fun x hx => b4.block x (HO3.out.lt x hx).2)
        have hB4 := Lib.hid (hBall.out.trans (b4.mono hBall.out.size))
        have hT4 := Lib.hid (HT1.out.below (HBL.out.trans (b4.mono HBL.out.size)))
        have HO4b := Lib.hid o4
        clear o4 b4
        go_wp2_with fail
        refine (same_ok _ _ _ _ _ _ HO4.out.sl HO4b.out.sl).mono ?_
        rintro e w5 ⟨rfl, n5, rfl⟩
        have hdx : decide (xs = ownL l user) = true := by rw [decide_eq_true_eq]; exact HX.out
        rw [hdx]
        clear hdx
        go_wp2_with fail
        refine (count_ok _ _ _ _ _ user (by omega) (hT4.out.drewN n5)).mono ?_
        rintro e w6 ⟨rfl, b6⟩
        rw [← HX.out]
        go_wp2_with fail
        refine (known_ok _).mono ?_
        rintro e w7 ⟨rfl, b7⟩
        have B6 := (below_drewN hB4.out n5).trans (b6.mono hB4.out.size)
        go_wp2_with fail
        go_ret
        exact ⟨rfl, B6.trans (b7.mono B6.size)⟩
  · go_enter Try.func4, Try.ntmps4
    by_cases hl2 : l.length ≤ 200
    · have hw1 : wide < 1 := by omega
      clear hlen
      go_wp2_with fail
      refine (known_ok _).mono ?_
      rintro e w7 ⟨rfl, b7⟩
      go_wp2_with fail
      go_ret
      exact ⟨rfl, b7⟩
    · clear hlen
      go_wp2_with fail
      refine (known_ok _).mono ?_
      rintro e w7 ⟨rfl, b7⟩
      go_wp2_with fail
      go_ret
      exact ⟨rfl, b7⟩

theorem auditPages_lifted (os : Os) (started : os.Started) (H : Type) (enc : TypeId × Value → H) :
    ReturnsInHanded {} Try.checked os 4 .any (Rows.auditPagesSpec.pre6 enc Try.prog Try.f4 Rows.auditPagesRow.domain false) (Rows.auditPagesSpec.post enc Try.prog Try.f4 false true false false) := by
  refine law_lifts (C := Try.checked) knob_none laid_out started (by kernel_rfl) Try.func4 Try.underlying4 rfl (fun t ht => ?_) rfl (fun ds hd => ?_)
    (ChangeSpec.witness6 (enc := enc) (C := Try.checked) false ⟨#[], #[.slice none 0 0, .int .i64 0, .int .i64 0], []⟩ 8 (by kernel_rfl) (by kernel_rfl) (by kernel_rfl) (by kernel_rfl)) ?_
  · have h : ([3, 22] : List TypeId).all (fun t => Try.prog.readableRec t && decide (t < Try.prog.types.size)) = true := by kernel_rfl
    have hm : t ∈ ([3, 22] : List TypeId) := by
      have : t ∈ ([22, 3, 3] : List TypeId) := ht
      simp only [List.mem_cons, List.not_mem_nil, or_false] at this ⊢
      rcases this with rfl | rfl | rfl <;> simp
    have := List.all_eq_true.1 h t hm
    simp only [Bool.and_eq_true, decide_eq_true_eq] at this
    exact this
  · match ds, hd with
    | [d1, d2, d3], _ => exact ⟨rfl, rfl, rfl⟩
  · intro W base args ds ps hval hA
    have hA' : DataW.TrodAll enc Try.prog W 0 (fun _ => true) true [22, 3, 3] args.toList ds ps := hA
    obtain ⟨v0, v1, v2, d0, d1, d2, p0, p1, p2, rfl, rfl, rfl, h0, h1, h2⟩ := trodAll_three hA'
    obtain ⟨l, hl⟩ := open_evs (hval 0 22 v0 rfl rfl) h0
    obtain ⟨a, rfl, -⟩ := open_int Try.underlying3 (hval 1 3 v1 rfl rfl) h1
    obtain ⟨b, rfl, -⟩ := open_int Try.underlying3 (hval 2 3 v2 rfl rfl) h2
    exact law_pages l v0 a b W hl

theorem auditPages_holds : Rows.AuditPagesSaid :=
  OpenClaim.holds_of_wide 4 Try.f4 rfl rfl rfl rfl rfl rfl rfl ⟨rfl, rfl, rfl, rfl, rfl⟩ rfl rfl rfl rfl rfl (by kernel_rfl) Try.func4 (by kernel_rfl)
    (of_decide_eq_true (by kernel_rfl)) (by unfold Func.isWrapper; rw [if_neg (of_decide_eq_false (by kernel_rfl))]; exact ⟨rfl, rfl⟩)
    (fun os started H enc _ => auditPages_lifted os started H enc)
end Go.Proofs.Ytnkgdabapgdiaaa
