/-
  WireCuts holds: for any request and any byte: the law returns true, and its arguments read as they did. Conditions: none.
-/
import Derived.Test.YtejmceihgndbhaaLawBack
namespace Go.Proofs.Ytejmceihgndbhaa
open Go.RowKit Go.ChangeShapes Go.WideShapes Go.Lib
attribute [local go_sem ↓] load_req stop_req

set_option maxRecDepth 100000 in
set_option maxHeartbeats 4000000 in
theorem law_cuts (q : Req) (hq : q.fits) (x : UInt8) (w : World) : Calls Try.prog 5 #[.agg (rqC q), .int .u8 (x.toNat : Int)] w (Holds w) := by
  have HQ := Lib.hid hq
  have hr := RQ.new w q
  obtain ⟨w1, hst1⟩ : ∃ w1, w.alloc (.cells (rqC q) 31) = w1 := ⟨_, rfl⟩
  rw [hst1] at hr
  have HRw1 := Lib.hid hr
  clear hr hq
  go_enter Try.func5, Try.ntmps5
  go_wp2_with (refine wpList_load_row rfl 31 (.tmp 2) rfl w.heap.size rfl 31 (rqC q) (0, 0) _ HRw1.out.b0 Try.underlying31 rfl (rq_size _) ?_)
  refine (Encode_ok q _ HQ.out).mono ?_
  rintro e w2 ⟨v, lx, rfl, hs2, h0, h1, hb⟩
  have HRw2 := Lib.hid (HRw1.out.below hb)
  have HSX := Lib.hid hs2
  obtain ⟨Ax, cx, rfl, hlc, hcm, -⟩ := hs2
  unfold maxLen at hcm
  have c2 : w2.cell? ⟨w.heap.size, 0, none⟩ = some (.int .i64 q.op) := HRw2.out.b0.is 0 rfl
  clear hb
  by_cases hE : encE q = 0
  · have hl := h0 hE
    subst hl
    have hg := enc_good (encE_ok hE)
    have h13 := hg.1.len
    have htop := hg.1.top
    have hop : (headR (encL q)).op = q.op := by rw [← bodyQ_op, ← hg.2]
    rw [hE]
    by_cases h3 : q.op = 3
    · have hb3 : (q.op == 3) = true := by simp [h3]
      have hn0 : (((encL q).length : Int) == 0) = false := by rw [beq_eq_false_iff_ne]; omega
      clear h0 h1 hE hg hop h3
      go_wp2_with fail
      refine (known_ok _).mono ?_
      rintro e w9 ⟨rfl, hb9⟩
      have HRw9 := Lib.hid (HRw2.out.below hb9)
      clear hb9
      go_wp2_with fail
      go_ret
      exact ⟨rfl, HRw9.out.bel⟩
    · have hb3 : (q.op == 3) = false := by simp [h3]
      have hless : (dec ((encL q).take ((encL q).length - 1))).2 = 50 := by rw [dec_eq]; exact rdec_less hg.1 (by rw [hop]; exact h3)
      have hmore : (dec (encL q ++ [x])).2 = 2 := by rw [dec_eq]; exact rdec_more hg.1 (by rw [hop]; exact h3) x
      generalize encL q = L at *
      obtain ⟨n, hn⟩ : ∃ n, L.length = n := ⟨_, rfl⟩
      have HN := Lib.hid hn
      have hpre := HSX.out.pre by_enc (n := n - 1) (by omega)
      rw [hn] at h13 htop hlc hless ⊢
      have hpl : (L.take (n - 1)).length = n - 1 := by simp; omega
      have HPRE := Lib.hid (show Sl byC w2 w2.heap.size (.slice Ax (n - 1) cx) (L.take (n - 1)) from hpre)
      have hsl : ∀ w, (Instr.slice 22 (.slice Ax n cx) none (some (.int .i64 ((n : Int) - 1))) none).run Try.prog w = .ok (.slice Ax (n - 1) cx) w := fun w => by
        rw [show (n : Int) - 1 = ((n - 1 : Nat) : Int) by omega]
        exact run_slice_hi Try.underlying22 Try.sizeOf5 w Ax n cx (n - 1) .i64 (by omega)
      have hn0 : ((n : Int) == 0) = false := by rw [beq_eq_false_iff_ne]; omega
      obtain ⟨d1, hd1⟩ : ∃ d, dec (L.take (n - 1)) = d := ⟨_, rfl⟩
      obtain ⟨d2, hd2⟩ : ∃ d, dec (L ++ [x]) = d := ⟨_, rfl⟩
      rw [hd1] at hless
      rw [hd2] at hmore
      have HD1 := Lib.hid hd1
      have HD2 := Lib.hid hd2
      have hk1 : (d1.2 == 50) = true := by simp [hless]
      have hk2 : (d2.2 == 2) = true := by simp [hmore]
      clear h0 h1 hE hg hop h3 hn hpre hpl hd1 hd2 hless hmore
      go_wp2_with fail
      refine (decode_ok (L.take (n - 1)) _ w2 HPRE.out).mono ?_
      rintro e w3 ⟨rfl, hb3'⟩
      rw [HD1.out]
      have HRw3 := Lib.hid (HRw2.out.below hb3')
      have HSX3 := Lib.hid ((HSX.out.below hb3').more hb3'.size)
      clear hb3'
      have HNya := Lib.hid (Blk.new w3 31 zeroC)
      obtain ⟨ya, hstya⟩ : ∃ x, w3.alloc (.cells zeroC 31) = x := ⟨_, rfl⟩
      rw [hstya] at HNya
      have HNyb := Lib.hid (HNya.out.row (rqC d1.1))
      have HRyb := Lib.hid (show RQ w (ya.setRow w3.heap.size (rqC d1.1)) q by rw [← hstya]; exact HRw3.out.stored d1.1)
      obtain ⟨yb, hstyb⟩ : ∃ x, ya.setRow w3.heap.size (rqC d1.1) = x := ⟨_, rfl⟩
      rw [hstyb] at HNyb HRyb
      have hzyb : yb.heap.size = w3.heap.size + 1 := by rw [← hstyb, ← hstya]; simp
      have HSX4 := Lib.hid (show Sl byC yb yb.heap.size (.slice Ax L.length cx) L by
        have h := (HSX3.out.below ((Below.refl w3.heap.size w3).alloc (Nat.le_refl _) (.cells zeroC 31)))
        rw [hstya] at h
        have h2 := h.keep (w' := yb) fun b hb => by rw [← hstyb]; exact setRow_other ya w3.heap.size b _ (by omega)
        exact h2.more (by omega))
      obtain ⟨b0, off0, hA, hlt0, hlay0⟩ : ∃ b off, Ax = some ⟨b, off, none⟩ ∧ b < yb.heap.size ∧ Lay yb b off (L.flatMap byC) := by
        obtain ⟨A', c', e, -, -, h3'⟩ := HSX4.out
        injection e with e1 e2 e3
        subst e1
        exact h3' (by rw [HN.out]; omega)
      subst hA
      have HL0 := Lib.hid hlay0
      clear hlay0 hsl
      have HY := Lib.hid (Below.refl yb.heap.size yb)
      go_wp2_with (refine wpList_store_row rfl 31 (.tmp 7) (.tmp 38) rfl w3.heap.size (rqC d1.1) rfl rfl 31 zeroC HNya.out (rq_size _) rfl (rq_one _) ?_)
      go_loopw [9, 10] (fun cv iv wr => ∃ i : Nat, i ≤ n ∧ iv = .int .i64 i ∧ Own byC 1 5 wr yb.heap.size cv (L.take i) ∧ Below yb.heap.size yb wr) (fun _ iv _ => (n - intOf iv).toNat)
      case atStart => exact ⟨0, Nat.zero_le _, rfl, Own.nil, HY.out⟩
      case round =>
        obtain ⟨i, hi, rfl, hown, hbel⟩ := hrel
        obtain ⟨A2, c3, rfl⟩ := hown.form
        have hli : (L.take i).length = i := by have := HN.out; simp; omega
        rw [hli]
        have HO := Lib.hid (show Own byC 1 5 wr yb.heap.size (.slice A2 i c3) (L.take i) by rw [hli] at hown; exact hown)
        by_cases hlt : i < n
        · have hiL : i < L.length := by rw [HN.out]; exact hlt
          have x0 := ((HL0.out.of_heap (hbel.block b0 hlt0)).elem byC_len i hiL).by
          rw [Nat.mul_one] at x0
          have hts := Lib.hid (List.take_succ_eq_append_getElem hiL)
          obtain ⟨y, hy⟩ : ∃ y, y = L[i] := ⟨_, rfl⟩
          rw [← hy] at x0
          rw [← hy] at hts
          obtain ⟨cur, hcur⟩ : ∃ cur, L.take i = cur := ⟨_, rfl⟩
          rw [hcur] at hli HO
          have HCUR := Lib.hid hcur
          have HLEN := Lib.hid hli
          have HOA := Lib.hid (HO.out.alloc (.cells #[.int .u8 (y.toNat : Int)] 5))
          have HBL := Lib.hid (Blk.new wr 5 #[.int .u8 (y.toNat : Int)]).lay
          have HW := Lib.hid (hbel.alloc hbel.size (.cells #[.int .u8 (y.toNat : Int)] 5))
          have hz : yb.heap.size ≤ (wr.alloc (.cells #[.int .u8 (y.toNat : Int)] 5)).heap.size := HW.out.size
          clear hown hli hy hcur
          go_wp2_with (at_builtin; refine app_one by_elem by_enc rfl (.tmp 46) (.tmp 51) rfl rfl HOA.out y wr.heap.size 1 rfl HBL.out (by have := HLEN.out; unfold maxLen; omega) (by have := HLEN.out; omega) hz ?_; intro g' cap' w6 hown2 hgrow hat hlt2; have HO2 := Lib.hid hown2; have HW2 := Lib.hid (HW.out.grown hgrow hz (fun b hb => (HOA.out.lt b hb).1)); clear hown2 hgrow hat)
          go_roundw
          case rel => exact ⟨i + 1, by omega, by go_num, by rw [hts.out, HCUR.out]; exact HO2.out, HW2.out⟩
          case measure => simp [intOf]; omega
        · obtain rfl : i = n := by omega
          have hLL : L.take i = L := by rw [← HN.out, List.take_length]
          rw [hLL] at HO
          have HOA := Lib.hid (HO.out.alloc (.cells #[.int .u8 (x.toNat : Int)] 5))
          have HBL := Lib.hid (Blk.new wr 5 #[.int .u8 (x.toNat : Int)]).lay
          have HW := Lib.hid (hbel.alloc hbel.size (.cells #[.int .u8 (x.toNat : Int)] 5))
          have hz : yb.heap.size ≤ (wr.alloc (.cells #[.int .u8 (x.toNat : Int)] 5)).heap.size := HW.out.size
          clear hown hli hLL
          go_wp2_with (at_builtin; refine app_one by_elem by_enc rfl (.tmp 54) (.tmp 56) rfl rfl HOA.out x wr.heap.size 1 rfl HBL.out (by have := HN.out; unfold maxLen; omega) (by have := HN.out; omega) hz ?_; intro g' cap' w6 hown2 hgrow hat hlt2; have HO2 := Lib.hid hown2; have HW2 := Lib.hid (HW.out.grown hgrow hz (fun b hb => (HOA.out.lt b hb).1)); clear hown2 hgrow hat)
          refine (decode_ok (L ++ [x]) _ w6 HO2.out.sl).mono ?_
          rintro e w7 ⟨rfl, hb7⟩
          rw [HD2.out]
          have HRw6 := Lib.hid (show RQ w w6 q from ⟨HRyb.out.b0.below HW2.out HRyb.out.b0.lt, HRyb.out.bel.trans (HW2.out.mono HRyb.out.bel.size)⟩)
          have HRw7 := Lib.hid (HRw6.out.below hb7)
          clear hb7
          have HNza := Lib.hid (Blk.new w7 31 zeroC)
          obtain ⟨za, hstza⟩ : ∃ x, w7.alloc (.cells zeroC 31) = x := ⟨_, rfl⟩
          rw [hstza] at HNza
          have HNzb := Lib.hid (HNza.out.row (rqC d2.1))
          have HRzb := Lib.hid (show RQ w (za.setRow w7.heap.size (rqC d2.1)) q by rw [← hstza]; exact HRw7.out.stored d2.1)
          obtain ⟨zb, hstzb⟩ : ∃ x, za.setRow w7.heap.size (rqC d2.1) = x := ⟨_, rfl⟩
          rw [hstzb] at HNzb HRzb
          have hzzb : zb.heap.size = w7.heap.size + 1 := by rw [← hstzb, ← hstza]; simp
          go_wp2_with (refine wpList_store_row rfl 31 (.tmp 11) (.tmp 59) rfl w7.heap.size (rqC d2.1) rfl rfl 31 zeroC HNza.out (rq_size _) rfl (rq_one _) ?_)
          refine (known_ok _).mono ?_
          rintro e w9 ⟨rfl, hb9⟩
          have HRw9 := Lib.hid (HRzb.out.below hb9)
          clear hb9
          go_wp2_with fail
          go_ret
          exact ⟨rfl, HRw9.out.bel⟩
  · have hE1 : (encE q != 0) = true := by simp [hE]
    clear h0 h1 hE
    generalize encE q = E at *
    go_wp2_with fail
    refine (known_ok _).mono ?_
    rintro e w9 ⟨rfl, hb9⟩
    have HRw9 := Lib.hid (HRw2.out.below hb9)
    clear hb9
    go_wp2_with fail
    go_ret
    exact ⟨rfl, HRw9.out.bel⟩

theorem wireCuts_lifted (os : Os) (started : os.Started) (H : Type) (enc : TypeId × Value → H) :
    ReturnsInHanded {} Try.checked os 5 .any (Rows.wireCutsSpec.pre6 enc Try.prog Try.f5 Rows.wireCutsRow.domain false) (Rows.wireCutsSpec.post enc Try.prog Try.f5 false true false false) := by
  refine law_lifts_sized (C := Try.checked) knob_none laid_out started (by kernel_rfl) Try.func5 Try.underlying4 rfl (fun t ht => ?_) rfl (fun ds hd => ?_)
    (ChangeSpec.witness6 (enc := enc) (C := Try.checked) false ⟨#[], #[.agg #[.int .i64 0, .int .i64 0, .int .i64 0, .int .u64 0, .int .i64 0, .int .i64 0, .int .i64 0, .int .i64 0, .int .i64 0, .string ⟨#[]⟩, .int .i64 0, .int .i64 0, .int .i64 0, .int .i64 0, .int .i64 0, .int .i64 0, .int .i64 0, .int .u64 0, .int .i64 0, .int .u64 0, .int .i64 0, .int .i64 0, .int .i64 0, .int .i64 0], .int .u8 0], []⟩ 8 (by kernel_rfl) (by kernel_rfl) (by kernel_rfl) (by kernel_rfl)) ?_
  · have h : ([31, 5] : List TypeId).all (fun t => Try.prog.readableRec t && decide (t < Try.prog.types.size)) = true := by kernel_rfl
    have hm : t ∈ ([31, 5] : List TypeId) := by
      have : t ∈ ([31, 5] : List TypeId) := ht
      simp only [List.mem_cons, List.not_mem_nil, or_false] at this ⊢
      rcases this with rfl | rfl <;> simp
    have := List.all_eq_true.1 h t hm
    simp only [Bool.and_eq_true, decide_eq_true_eq] at this
    exact this
  · match ds, hd with
    | [d1, d2], _ => exact ⟨rfl, rfl, rfl⟩
  · intro W base args ds ps hval hA hwt
    have hA' : DataW.TrodAll enc Try.prog W 0 (fun _ => true) true [31, 5] args.toList ds ps := hA
    obtain ⟨v0, v1, d0, d1, p0, p1, rfl, rfl, rfl, h0, h1⟩ := trodAll_two hA'
    obtain ⟨q, rfl, hok, hm⟩ := open_req (hval 0 31 v0 rfl rfl) h0
    obtain ⟨n, rfl, -, -, hw⟩ := open_int Try.underlying5 (hval 1 5 v1 rfl rfl) h1
    obtain ⟨x, rfl⟩ := u8_of hw
    exact law_cuts q (req_fits hok (j := 0) (d := d0) rfl rfl hm hwt) x W

theorem wireCuts_holds : Rows.WireCutsSaid :=
  OpenClaim.holds_of_wide 5 Try.f5 rfl rfl rfl rfl rfl rfl rfl ⟨rfl, rfl, rfl, rfl, rfl⟩ rfl rfl rfl rfl rfl (by kernel_rfl) Try.func5 (by kernel_rfl)
    (of_decide_eq_true (by kernel_rfl)) (by unfold Func.isWrapper; rw [if_neg (of_decide_eq_false (by kernel_rfl))]; exact ⟨rfl, rfl⟩)
    (fun os started H enc _ => wireCuts_lifted os started H enc)
end Go.Proofs.Ytejmceihgndbhaa
