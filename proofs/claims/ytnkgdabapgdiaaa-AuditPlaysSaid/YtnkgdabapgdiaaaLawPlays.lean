/-
  AuditPlays holds: whatever is done with a trail, step by step it tells what the document says. Conditions: none.
-/
import Derived.Test.YtnkgdabapgdiaaaPlays
namespace Go.Proofs.Ytnkgdabapgdiaaa
open Go.RowKit Go.ChangeShapes Go.WideShapes

structure PlayOp where
  kind : Int
  ev : Ev
  n : Int
instance : Inhabited PlayOp := ⟨⟨0, default, 0⟩⟩
def opC (o : PlayOp) : List Value := [.int .i64 o.kind, .int .i64 o.ev.user, .int .i64 o.ev.op, .int .i64 o.ev.status, .int .i64 o.ev.tick, .int .i64 o.n]
theorem opC_len (o : PlayOp) : (opC o).length = 6 := rfl
theorem Lay.op {w : World} {b off : Nat} {o : PlayOp} (h : Lay w b off (opC o)) :
    w.cell? ⟨b, off, none⟩ = some (.int .i64 o.kind) ∧ w.cell? ⟨b, off + 1, none⟩ = some (.int .i64 o.ev.user) ∧ w.cell? ⟨b, off + 1 + 1, none⟩ = some (.int .i64 o.ev.op) ∧ w.cell? ⟨b, off + 1 + 2, none⟩ = some (.int .i64 o.ev.status) ∧ w.cell? ⟨b, off + 1 + 3, none⟩ = some (.int .i64 o.ev.tick) ∧ w.cell? ⟨b, off + 5, none⟩ = some (.int .i64 o.n) :=
  ⟨h 0 _ rfl, h 1 _ rfl, h 2 _ rfl, h 3 _ rfl, h 4 _ rfl, h 5 _ rfl⟩

set_option maxRecDepth 100000 in
set_option maxHeartbeats 8000000 in
theorem law_plays (l : List PlayOp) (s : Value) (user : Int) (w : World) (hs : Sl opC w w.heap.size s l) :
    Calls Try.prog 6 #[s, .int .i64 user] w (Holds w) := by
  have hs' := hs
  obtain ⟨A0, ca, rfl, h1, h2, h3⟩ := hs'
  unfold maxLen at h2
  go_enter Try.func6, Try.ntmps6
  go_wp2_with fail
  refine (new_ok _).mono ?_
  rintro e w2 ⟨rfl, rfl⟩
  have t0 := Trl.made w
  have B0 := (Below.refl w.heap.size w).alloc (Nat.le_refl _) (.cells #[.slice none 0 0, .int .i64 0] 52)
  generalize w.alloc (Obj.cells #[Value.slice none 0 0, Value.int IntKind.i64 0] 52) = w2 at *
  have HI : Hid (PI w w.heap.size (.slice none 0 0) (.slice none 0 0) [] [] [] (([] : List Ev).length : Nat) w2) := ⟨t0, Own.nil, Own.nil, fun x hx => by simp [Value.ownBlock] at hx, fun x hx => by simp [Value.ownBlock] at hx, fun x hx => by simp [Value.ownBlock] at hx, B0⟩
  have H3 := Lib.hid h3
  clear t0 B0 hs h3
  go_wp2_with fail
  go_loopw [6, 7, 8] (fun av gv iv wr => ∃ i A G L AA cA AG cG, i ≤ l.length ∧ i ≤ 100 ∧ iv = .int .i64 (i : Nat) ∧ av = .slice AA (A : List Ev).length cA ∧ gv = .slice AG (G : List Ev).length cG ∧ A = G ++ L ∧ A.length ≤ i ∧ PI w w.heap.size av gv A G L (G.length : Nat) wr) (fun _ _ iv _ => (100 - intOf iv).toNat)
  case atStart => exact ⟨0, [], [], [], none, 0, none, 0, Nat.zero_le _, by omega, rfl, rfl, rfl, rfl, Nat.le_refl _, HI.out⟩
  case round =>
    obtain ⟨i, A, G, L, AA, cA, AG, cG, hi, hi100, rfl, rfl, rfl, hAL0, hAi, hP0⟩ := hrel
    have hAL := Lib.hid hAL0
    have HP := Lib.hid hP0
    have hGA : G.length ≤ A.length := by have := congrArg List.length hAL.out; simp at this; omega
    have hLA : L.length ≤ A.length := by have := congrArg List.length hAL.out; simp at this; omega
    clear hAL0 hP0
    by_cases hlt : i < l.length ∧ i < 100
    · obtain ⟨hil, hi1⟩ := hlt
      obtain ⟨lb, lo, rfl, hlb, hlay⟩ := H3.out (by omega)
      have hOp := Lib.hid (fun (W : World) (hW : W.heap[lb]? = wr.heap[lb]?) => (((hlay.of_heap (HP.out.bel.block lb hlb)).of_heap hW).elem opC_len i hil).op)
      obtain ⟨x0, x1, x2, x3, x4, x5⟩ := hOp.out wr rfl
      clear hlay
      cases hk : (l[i].kind == 0)
      · -- Drain
        go_wp2_with fail
        refine (drain_ok _ _ _ _ _ l[i].n HP.out.trl (by omega) (by omega) (by omega)).mono ?_
        rintro e w5 ⟨d, rfl, hd, p5, hb5, hf5, hrow5⟩
        have hnl : takes L l[i].n ≤ L.length := takes_le _ _
        have hpast : ((G.length : Nat) : Int) + min ((takes L l[i].n : Nat) : Int) (4611686018427387903 - (G.length : Nat)) = ((G.length + takes L l[i].n : Nat) : Int) := by
          omega
        rw [hpast] at p5
        have HP5 := Lib.hid (HP.out.turn p5 hb5 hf5)
        have HD := Lib.hid hd
        have HR5 := Lib.hid hrow5
        have y5 := hOp.out w5 (hb5.block lb hlb)
        obtain ⟨z0, z1, z2, z3, z4, z5⟩ := y5
        obtain ⟨AD, cD, rfl⟩ := hd.form
        have hdl : (L.take (takes L l[i].n)).length = takes L l[i].n := by simp; omega
        rw [hdl] at HD HR5 ⊢
        have HSA := Lib.hid (HP5.out.all.sl)
        have hLn : A.length - G.length = L.length := by have := congrArg List.length hAL.out; simp at this; omega
        have hdrop := Lib.hid (show A.drop G.length = L by rw [hAL.out, List.drop_left])
        have HcA := Lib.hid (HSA.out.cut ev_enc hGA)
        rw [hdrop.out, hLn] at HcA
        have HPA := Lib.hid hpast
        obtain ⟨tk, htk⟩ : ∃ tk, tk = takes L l[i].n := ⟨_, rfl⟩
        have HTK := Lib.hid htk
        rw [← htk] at HD HR5 HP5 hnl HPA ⊢
        clear hd p5 hb5 hf5 hrow5 x0 x1 x2 x3 x4 x5 hdl hpast htk
        go_wp2_with fail
        refine (page_ok L _ 0 l[i].n _ _ HcA.out (Nat.le_refl _) (by omega)).mono ?_
        rintro e w6 ⟨v6, rfl, o6, b6⟩
        have HP6 := Lib.hid (HP5.out.ext b6)
        have hsd := (HD.out.sl.below b6).more b6.size
        have HD6 := Lib.hid (HD.out.keep (w' := w6) fun x hx => b6.block x (HD.out.lt x hx).2)
        have HSD := Lib.hid hsd
        have HSD' : Sl evC w6 w6.heap.size (.slice AD tk cD) (L.take tk) := hsd
        have O6 := Lib.hid o6
        clear o6 b6 hsd
        rw [← takes_page, ← HTK.out] at O6
        go_wp2_with fail
        refine (same_ok (L.take tk) (L.take tk) _ _ _ _ HSD' O6.out.sl).mono ?_
        rintro e w7 ⟨rfl, n7, rfl⟩
        rw [decide_eq_true (rfl : L.take tk = L.take tk)]
        have HP7 := Lib.hid (HP6.out.drewN n7)
        have HD7 := Lib.hid (HD6.out.drewN n7)
        have hR7 : ∀ x, (Value.slice AD tk cD).ownBlock = some x → w.heap.size ≤ x ∧ x < (w6.drewN n7).heap.size ∧ (Value.slice AG G.length cG).ownBlock ≠ some x := fun x hx => ⟨(HD.out.lt x hx).1, (HD7.out.lt x hx).2, fun e => by
          have h1 := (HR5.out x hx).1
          have h2 := (HP.out.gone.lt x e).2
          omega⟩
        have HR7 := Lib.hid hR7
        generalize (w6.drewN n7) = w8 at HP7 HD7 HR7 ⊢
        clear hR7 HP6 HD6 HSD HSD' O6 HP5 HD HR5 z0 z1 z2 z3 z4 z5 HcA HSA
        obtain ⟨D, hD⟩ : ∃ D, D = L.take tk := ⟨_, rfl⟩
        have HDD := Lib.hid hD
        have HDl := Lib.hid (show D.length = tk by rw [hD, List.length_take]; omega)
        rw [← hD] at HD7
        clear hD
        go_wp2_with fail
        go_loopw [7, 11] (fun gv kv wr => ∃ j AG' cG', j ≤ tk ∧ kv = .int .i64 (j : Nat) ∧ gv = .slice AG' (G.length + j) cG' ∧ PI w w.heap.size (.slice AA A.length cA) gv A (G ++ D.take j) (L.drop tk) (G.length + tk : Nat) wr ∧ (∀ x, (Value.slice AD tk cD).ownBlock = some x → wr.heap[x]? = w8.heap[x]? ∧ gv.ownBlock ≠ some x) ∧ w8.heap.size ≤ wr.heap.size) (fun _ kv _ => (tk - intOf kv).toNat)
        case atStart => exact ⟨0, AG, cG, Nat.zero_le _, rfl, rfl, by rw [List.take_zero, List.append_nil]; exact HP7.out, fun x hx => ⟨rfl, (HR7.out x hx).2.2⟩, Nat.le_refl _⟩
        case round =>
          obtain ⟨j, AG', cG', hj, rfl, rfl, hP, hDk, hsz⟩ := hrel
          have HP8 := Lib.hid hP
          have HDk := Lib.hid hDk
          clear hP hDk
          by_cases hjt : j < tk
          · obtain ⟨pb, pc, epb, hpb1, hpb2⟩ := World.ownsRow.form HD7.out (by rw [HDl.out]; omega)
            injection epb with ep1 ep2 ep3
            subst ep1
            clear ep2 ep3
            have hlay : Lay w8 pb 0 (D.flatMap evC) := by
              obtain ⟨A5, c5, e5, _, _, h5⟩ := HD7.out.sl
              obtain ⟨b6, o6, e6, _, h6⟩ := h5 (by rw [HDl.out]; omega)
              injection e5 with e7 e8 e9
              rw [← e7] at e6
              cases e6
              exact h6
            have hjl : j < D.length := by rw [HDl.out]; exact hjt
            have hel := (((hlay.of_heap (HDk.out pb rfl).1)).elem evC_len j hjl).ev
            simp only [Nat.zero_add] at hel
            obtain ⟨z0, z1, z2, z3⟩ := hel
            have hlj : (G ++ D.take j).length = G.length + j := by rw [List.length_append, List.length_take, HDl.out]; omega
            have HLJ := Lib.hid hlj
            have hstep := Lib.hid (show G ++ D.take j ++ [D[j]] = G ++ D.take (j + 1) by rw [List.take_succ_eq_append_getElem hjl, List.append_assoc])
            have HPa := Lib.hid (HP8.out.ext ((Below.refl _ wr).alloc (Nat.le_refl _) (.cells (evA D[j]) 33)))
            have hGj : G.length + j ≤ 100 := by omega
            clear hlay hlj
            go_wp2_with (at_builtin; refine app_one ev_elem ev_enc rfl (.tmp 73) (.tmp 78) rfl rfl HPa.out.gone D[j] wr.heap.size 1 rfl (Blk.lay (Blk.new _ _ _)) (by unfold maxLen; rw [HLJ.out]; omega) (by rw [HLJ.out]; omega) (Nat.le_of_lt HPa.out.trl.lt.2) ?_; intro g' cap w9 hown9 hgrow hat hlt9; rw [HLJ.out, hstep.out] at hown9; rw [HLJ.out])
            go_roundw
            case rel =>
              have hws := hgrow.size
              simp only [World.size_alloc] at hws
              refine ⟨j + 1, some ⟨g', 0, none⟩, cap, by omega, by go_num, by rw [Nat.add_assoc], HPa.out.gone_grows (n' := G.length + j + 1) hown9 hgrow hat, ?_, by omega⟩
              intro x hx
              have hxp : x = pb := by simpa [Value.ownBlock, eq_comm] using hx
              subst hxp
              refine ⟨(hgrow.block x (by rw [World.size_alloc]; omega) (fun e => (HDk.out x rfl).2 e.symm)).trans ((Below.heap_alloc _ _ _ (by omega)).trans (HDk.out x rfl).1), fun e => ?_⟩
              have hgx : g' = x := by simpa [Value.ownBlock] using e
              rcases hat with hat | hat
              · exact (HDk.out x rfl).2 (hat.trans (by rw [hgx]))
              · rw [World.size_alloc] at hat
                omega
            case measure => simp [intOf]; omega
          · obtain rfl : j = tk := by omega
            have hTT := HP8.out
            rw [List.take_of_length_le (l := D) (by rw [HDl.out]; omega), HDD.out] at hTT
            have hTl : (L.take j).length = j := by rw [← HDD.out, HDl.out]
            obtain ⟨G2, hG2⟩ : ∃ G2, G2 = G ++ L.take j := ⟨_, rfl⟩
            obtain ⟨L2, hL2⟩ : ∃ L2, L2 = L.drop j := ⟨_, rfl⟩
            have hg2 : G.length + j = G2.length := by rw [hG2, List.length_append, hTl]
            rw [← hG2, ← hL2, hg2] at hTT
            rw [hg2]
            have HP := Lib.hid hTT
            have hAL := Lib.hid (show A = G2 ++ L2 by rw [hG2, hL2, List.append_assoc, List.take_append_drop]; exact hAL.out)
            clear hTT hG2 hL2 hg2 HP8 HDk hTl HP7 HR7 HD7 hGA hLA HDD HDl
            have HSA := Lib.hid (HP.out.all.sl)
            have hGA : G2.length ≤ A.length := by have := congrArg List.length hAL.out; simp at this; omega
            have hLn : A.length - G2.length = L2.length := by have := congrArg List.length hAL.out; simp at this; omega
            have hdrop := Lib.hid (show A.drop G2.length = L2 by rw [hAL.out, List.drop_left])
            have HcA := Lib.hid (HSA.out.cut ev_enc hGA)
            rw [hdrop.out, hLn] at HcA
            have hL100 : L2.length ≤ 100 := by omega
            go_wp2_with fail
            refine (left_ok _ _ _ _ _ HP.out.trl (by omega)).mono ?_
            rintro e q1 ⟨k1, rfl, j1, y1⟩
            have HP1 := Lib.hid (HP.out.ext y1)
            have J1 := Lib.hid j1
            have Y1 := Lib.hid y1
            clear j1 y1
            go_wp2_with fail
            refine (same_ok _ _ _ _ _ _ J1.out.sl ((HcA.out.below Y1.out).more Y1.out.size)).mono ?_
            rintro e q2 ⟨rfl, n2, rfl⟩
            rw [decide_eq_true (rfl : L2 = L2)]
            have HP2 := Lib.hid (HP1.out.drewN n2)
            go_wp2_with fail
            refine (len_ok _ _ _ _ _ HP2.out.trl).mono ?_
            rintro e q3 ⟨rfl, rfl⟩
            go_wp2_with fail
            refine (past_ok _ _ _ _ _ HP2.out.trl).mono ?_
            rintro e q4 ⟨rfl, rfl⟩
            go_wp2_with fail
            refine (count_ok _ _ _ _ _ user (by omega) HP2.out.trl).mono ?_
            rintro e q5 ⟨rfl, y5⟩
            have HP5 := Lib.hid (HP2.out.ext y5)
            have hc5 := (((HcA.out.below Y1.out).more Y1.out.size).drewN n2).below y5
            have HC5 := Lib.hid hc5
            have hsz5 := y5.size
            clear y5 hc5
            go_wp2_with fail
            refine (rown_ok L2 _ user _ _ HC5.out (by simpa using hsz5) (by omega)).mono ?_
            rintro e q6 ⟨k6, rfl, j6, y6⟩
            have HP6 := Lib.hid (HP5.out.ext y6)
            obtain ⟨A6, c6, rfl⟩ := j6.form
            clear j6 y6
            go_wp2_with fail
            go_roundw
            case rel => exact ⟨i + 1, A, G2, L2, AA, cA, AG', cG', by omega, by omega, by go_num, rfl, rfl, hAL.out, by omega, HP6.out⟩
            case measure => simp [intOf]; omega
      · -- Put
        have hLl : L.length ≤ 100 := by omega
        go_wp2_with fail
        refine (put_ok _ _ _ _ _ l[i].ev HP.out.trl (by omega)).mono ?_
        rintro e w5 ⟨rfl, p5, q5, fr5⟩
        have HP5 := Lib.hid (HP.out.turn p5 q5 fr5)
        obtain ⟨z0, z1, z2, z3, z4, z5⟩ := hOp.out w5 (q5.block lb hlb)
        clear p5 q5 fr5 x0 x1 x2 x3 x4 x5
        obtain ⟨ev0, hev⟩ : ∃ ev0, ev0 = l[i].ev := ⟨_, rfl⟩
        have HEV := Lib.hid hev
        rw [← hev] at z1 z2 z3 z4 HP5
        clear hev
        have HPa := Lib.hid (HP5.out.ext ((Below.refl _ w5).alloc (Nat.le_refl _) (.cells (evA ev0) 33)))
        go_wp2_with (at_builtin; refine app_one ev_elem ev_enc rfl (.tmp 38) (.tmp 44) rfl rfl HPa.out.all ev0 w5.heap.size 1 rfl (Blk.lay (Blk.new _ _ _)) (by unfold maxLen; omega) (by omega) (Nat.le_of_lt HPa.out.trl.lt.2) ?_; intro g' cap w9 hown9 hgrow hat hlt9; have HP9 := Lib.hid (HPa.out.all_grows hown9 hgrow hat); obtain ⟨A2, hA2⟩ : ∃ A2, A2 = A ++ [ev0] := ⟨_, rfl⟩; obtain ⟨L2, hL2⟩ : ∃ L2, L2 = L ++ [ev0] := ⟨_, rfl⟩; have hA2l : A2.length = A.length + 1 := (by rw [hA2, List.length_append]; rfl); have hAL2 := Lib.hid (show A2 = G ++ L2 by rw [hA2, hL2, ← List.append_assoc, ← hAL.out]); rw [← hA2, ← hL2, ← hA2l] at HP9; rw [← hA2l]; have hA2le : A2.length ≤ i + 1 := (by omega); clear hA2 hL2 hA2l hown9 hgrow hat hlt9 HPa HP5 HP hAL hGA hLA hAi z0 z1 z2 z3 z4 z5 hLl; have HP := HP9; have hAL := hAL2; have hGA : G.length ≤ A2.length := (by have := congrArg List.length hAL2.out; rw [List.length_append] at this; omega); have hLn : A2.length - G.length = L2.length := (by have := congrArg List.length hAL2.out; rw [List.length_append] at this; omega); clear HP9 hAL2)
        have HSA := Lib.hid (HP.out.all.sl)
        have hGA : G.length ≤ A2.length := by have := congrArg List.length hAL.out; simp at this; omega
        have hLn : A2.length - G.length = L2.length := by have := congrArg List.length hAL.out; simp at this; omega
        have hdrop := Lib.hid (show A2.drop G.length = L2 by rw [hAL.out, List.drop_left])
        have HcA := Lib.hid (HSA.out.cut ev_enc hGA)
        rw [hdrop.out, hLn] at HcA
        have hL100 : L2.length ≤ 100 := by omega
        go_wp2_with fail
        refine (left_ok _ _ _ _ _ HP.out.trl (by omega)).mono ?_
        rintro e q1 ⟨k1, rfl, j1, y1⟩
        have HP1 := Lib.hid (HP.out.ext y1)
        have J1 := Lib.hid j1
        have Y1 := Lib.hid y1
        clear j1 y1
        go_wp2_with fail
        refine (same_ok _ _ _ _ _ _ J1.out.sl ((HcA.out.below Y1.out).more Y1.out.size)).mono ?_
        rintro e q2 ⟨rfl, n2, rfl⟩
        rw [decide_eq_true (rfl : L2 = L2)]
        have HP2 := Lib.hid (HP1.out.drewN n2)
        go_wp2_with fail
        refine (len_ok _ _ _ _ _ HP2.out.trl).mono ?_
        rintro e q3 ⟨rfl, rfl⟩
        go_wp2_with fail
        refine (past_ok _ _ _ _ _ HP2.out.trl).mono ?_
        rintro e q4 ⟨rfl, rfl⟩
        go_wp2_with fail
        refine (count_ok _ _ _ _ _ user (by omega) HP2.out.trl).mono ?_
        rintro e q5 ⟨rfl, y5⟩
        have HP5 := Lib.hid (HP2.out.ext y5)
        have hc5 := (((HcA.out.below Y1.out).more Y1.out.size).drewN n2).below y5
        have HC5 := Lib.hid hc5
        have hsz5 := y5.size
        clear y5 hc5
        go_wp2_with fail
        refine (rown_ok L2 _ user _ _ HC5.out (by simpa using hsz5) (by omega)).mono ?_
        rintro e q6 ⟨k6, rfl, j6, y6⟩
        have HP6 := Lib.hid (HP5.out.ext y6)
        obtain ⟨A6, c6, rfl⟩ := j6.form
        clear j6 y6
        go_wp2_with fail
        go_roundw
        case rel => exact ⟨i + 1, A2, G, L2, some ⟨g', 0, none⟩, cap, AG, cG, by omega, by omega, by go_num, rfl, rfl, hAL.out, by omega, HP6.out⟩
        case measure => simp [intOf]; omega
    · have hGc : G.length ≤ cA := by obtain ⟨A5, c5, e5, k5, _⟩ := HP.out.all.sl; injection e5 with e6 e7 e8; omega
      have hpre := HP.out.all.sl.pre ev_enc hGA
      have htk : A.take G.length = G := by rw [hAL.out, List.take_left]
      rw [htk] at hpre
      have HPr := Lib.hid hpre
      clear hpre htk
      by_cases hil : i < l.length
      · have hi1 : ¬ i < 100 := fun h => hlt ⟨hil, h⟩
        clear hlt
        go_wp2_with fail
        refine (same_ok _ _ _ _ _ _ HP.out.gone.sl HPr.out).mono ?_
        rintro e q1 ⟨rfl, n1, rfl⟩
        rw [decide_eq_true (rfl : G = G)]
        go_wp2_with fail
        refine (known_ok _).mono ?_
        rintro e q2 ⟨rfl, y2⟩
        go_wp2_with fail
        go_ret
        exact ⟨rfl, (below_drewN HP.out.bel n1).trans (y2.mono HP.out.bel.size)⟩
      · clear hlt
        go_wp2_with fail
        refine (same_ok _ _ _ _ _ _ HP.out.gone.sl HPr.out).mono ?_
        rintro e q1 ⟨rfl, n1, rfl⟩
        rw [decide_eq_true (rfl : G = G)]
        go_wp2_with fail
        refine (known_ok _).mono ?_
        rintro e q2 ⟨rfl, y2⟩
        go_wp2_with fail
        go_ret
        exact ⟨rfl, (below_drewN HP.out.bel n1).trans (y2.mono HP.out.bel.size)⟩

section
variable {H : Type} {enc : TypeId × Value → H} {w : World} {base : Nat} {spare : Nat → Bool} {held : Bool}
theorem trod_op (n : Nat) (cs : List Value) (x : DataW H × List MemPlace) (h : DataW.trod enc Try.prog w base spare held n 41 cs = some x) (hl : cs.length = 6) : ∃ a : PlayOp, cs = opC a ∧ True := by
  match cs, hl with
  | [c0, c1, c2, c3, c4, c5], _ =>
    obtain ⟨xs, m, _, _, _, hlen, hf⟩ := DataW.trod_struct Try.underlying41 h
    match xs, hlen with
    | [y0, y1, y2], _ =>
      have h0 : DataW.trod enc Try.prog w base spare held m 3 (([c0, c1, c2, c3, c4, c5].drop 0).take (Try.prog.cellsOf 3)) = some y0 := hf 0 _ rfl
      have h1 : DataW.trod enc Try.prog w base spare held m 33 (([c0, c1, c2, c3, c4, c5].drop 1).take (Try.prog.cellsOf 33)) = some y1 := hf 1 _ rfl
      have h2 : DataW.trod enc Try.prog w base spare held m 3 (([c0, c1, c2, c3, c4, c5].drop 5).take (Try.prog.cellsOf 3)) = some y2 := hf 2 _ rfl
      have k3 : Try.prog.cellsOf 3 = 1 := by kernel_rfl
      have k33 : Try.prog.cellsOf 33 = 4 := by kernel_rfl
      simp only [k3, k33, List.drop_zero, List.drop_succ_cons, List.take_succ_cons, List.take_zero] at h0 h1 h2
      obtain ⟨a0, e0, _⟩ := DataW.trod_int Try.underlying3 h0
      obtain ⟨a1, e1, _⟩ := trod_ev _ _ _ h1 rfl
      obtain ⟨a2, e2, _⟩ := DataW.trod_int Try.underlying3 h2
      simp only [evC, List.cons.injEq, and_true] at e0 e1 e2
      obtain ⟨f1, f2, f3, f4⟩ := e1
      subst e0 f1 f2 f3 f4 e2
      exact ⟨⟨a0, a1, a2⟩, rfl, trivial⟩
theorem open_ops {r : Reach} {b0 : Nat} {v : Value} {d : DataW H} {ps : List MemPlace} (hv : Value.okWide Try.prog w r b0 39 v) (h : DataW.Trod enc Try.prog w base spare held 39 v d ps) : ∃ l : List PlayOp, Sl opC w w.heap.size v l := by
  obtain ⟨l, hl, _⟩ := open_sl (enc' := opC) (by omega) opC_len (fun _ => True) Try.underlying39 (by kernel_rfl) trod_op hv h
  exact ⟨l, hl⟩
end

theorem auditPlays_lifted (os : Os) (started : os.Started) (H : Type) (enc : TypeId × Value → H) :
    ReturnsInHanded {} Try.checked os 6 .any (Rows.auditPlaysSpec.pre6 enc Try.prog Try.f6 Rows.auditPlaysRow.domain false) (Rows.auditPlaysSpec.post enc Try.prog Try.f6 false true false false) := by
  refine law_lifts (C := Try.checked) knob_none laid_out started (by kernel_rfl) Try.func6 Try.underlying4 rfl (fun t ht => ?_) rfl (fun ds hd => ?_)
    (ChangeSpec.witness6 (enc := enc) (C := Try.checked) false ⟨#[], #[.slice none 0 0, .int .i64 0], []⟩ 8 (by kernel_rfl) (by kernel_rfl) (by kernel_rfl) (by kernel_rfl)) ?_
  · have h : ([3, 39] : List TypeId).all (fun t => Try.prog.readableRec t && decide (t < Try.prog.types.size)) = true := by kernel_rfl
    have hm : t ∈ ([3, 39] : List TypeId) := by
      have : t ∈ ([39, 3] : List TypeId) := ht
      simp only [List.mem_cons, List.not_mem_nil, or_false] at this ⊢
      rcases this with rfl | rfl <;> simp
    have := List.all_eq_true.1 h t hm
    simp only [Bool.and_eq_true, decide_eq_true_eq] at this
    exact this
  · match ds, hd with
    | [d1, d2], _ => exact ⟨rfl, rfl, rfl⟩
  · intro W base args ds ps hval hA
    have hA' : DataW.TrodAll enc Try.prog W 0 (fun _ => true) true [39, 3] args.toList ds ps := hA
    obtain ⟨v0, v1, d0, d1, p0, p1, rfl, rfl, rfl, h0, h1⟩ := trodAll_two hA'
    obtain ⟨l, hl⟩ := open_ops (hval 0 39 v0 rfl rfl) h0
    obtain ⟨b, rfl, -⟩ := open_int Try.underlying3 (hval 1 3 v1 rfl rfl) h1
    exact law_plays l v0 b W hl

theorem auditPlays_holds : Rows.AuditPlaysSaid :=
  OpenClaim.holds_of_wide 6 Try.f6 rfl rfl rfl rfl rfl rfl rfl ⟨rfl, rfl, rfl, rfl, rfl⟩ rfl rfl rfl rfl rfl (by kernel_rfl) Try.func6 (by kernel_rfl)
    (of_decide_eq_true (by kernel_rfl)) (by unfold Func.isWrapper; rw [if_neg (of_decide_eq_false (by kernel_rfl))]; exact ⟨rfl, rfl⟩)
    (fun os started H enc _ => auditPlays_lifted os started H enc)
end Go.Proofs.Ytnkgdabapgdiaaa
