/-
  WireBack holds: for any request and any bytes: the law returns true, and its arguments read as they did. Conditions: none.
-/
import Derived.Test.YtejmceihgndbhaaLawNeeds
import Derived.Test.YtejmceihgndbhaaLawDec
namespace Go.Proofs.Ytejmceihgndbhaa
open Go.RowKit Go.ChangeShapes Go.WideShapes Go.Lib
attribute [local go_sem ↓] load_req stop_req

theorem RQ.stored {w wx : World} {q : Req} (h : RQ w wx q) (d : Req) : RQ w ((wx.alloc (.cells zeroC 31)).setRow wx.heap.size (rqC d)) q :=
  ⟨(h.b0.alloc _).farRow (Nat.ne_of_lt h.b0.lt) _, below_setRow (h.bel.alloc h.bel.size _) h.bel.size _⟩
theorem cut_lt8 : ∀ (ws : List Nat) (r : List UInt8) (i : Nat), (∀ x ∈ ws, 1 ≤ x ∧ x ≤ 8) → (cutN r ws).getD i 0 < 256 ^ 8
  | [], r, i, _ => by simp [cutN]
  | x :: ws, r, 0, h => by
    have hx := (h x (List.mem_cons_self ..)).2
    have h1 : (r.take x).length ≤ 8 := by simp; omega
    have := beNat_lt (r.take x).length (r.take x) rfl
    simp only [cutN, List.getD_cons_zero]
    exact Nat.lt_of_lt_of_le this (Nat.pow_le_pow_right (by omega) h1)
  | x :: ws, r, i + 1, h => by
    simp only [cutN, List.getD_cons_succ]
    exact cut_lt8 ws _ i fun y hy => h y (List.mem_cons_of_mem _ hy)
theorem withR_ok {q : Req} {l : List Nat} {t : List UInt8} (h : q.ok) (hl : ∀ i, l.getD i 0 < 256 ^ 8) : (withR q l t).ok := by
  unfold withR
  repeat' refine ite_R (p := Req.ok) ?_ ?_
  all_goals exact ⟨h.1, by first | exact h.2.1 | exact hl _, by first | exact h.2.2 | exact hl _⟩
theorem withR_txt {q : Req} {l : List Nat} {t : List UInt8} (h : q.txt.length ≤ 512) (ht : t.length ≤ 512) : (withR q l t).txt.length ≤ 512 := by
  unfold withR
  repeat' refine ite_R (p := fun z => z.txt.length ≤ 512) ?_ ?_
  all_goals first | exact h | exact ht
theorem good_fits {l : List UInt8} (h : Good l) : (bodyQ l).fits := by
  constructor
  · refine withR_ok ⟨?_, (by show (0 : Nat) < 256 ^ 8; decide), (by show (0 : Nat) < 256 ^ 8; decide)⟩ fun i => cut_lt8 _ _ i (@widths_le _)
    have h1 : ((l.drop 4).take 8).length ≤ 8 := by simp; omega
    have := beNat_lt ((l.drop 4).take 8).length ((l.drop 4).take 8) rfl
    exact Nat.lt_of_lt_of_le this (Nat.pow_le_pow_right (by omega) h1)
  · have ht : (if (headR l).op = 3 then l.drop 13 else []).length ≤ 512 := by
      split
      · rw [List.length_drop]; exact h.top
      · simp
    have := withR_txt (q := headR l) (l := cutN (l.drop 13) (widths (headR l).op)) (by simp [headR, zeroR]) ht
    have h2 : (bodyQ l).txt.length ≤ 512 := this
    omega
/-- What is refused is of zeros. -/
theorem rdec_two (l : List UInt8) : (∃ n : Int, n ≠ 0 ∧ rdec l = (zeroR 0, n)) ∨ rdec l = (bodyQ l, 0) := by
  have hb : (withR (headR l) (cutN (l.drop 13) (widths (headR l).op)) (if (headR l).op = 3 then l.drop 13 else [])) = bodyQ l := rfl
  unfold rdec rdec2
  rw [hb]
  by_cases h1 : l.length < 13
  · exact .inl ⟨50, by decide, if_pos h1⟩
  rw [if_neg h1]
  by_cases h2 : isOp (headR l).op = false
  · exact .inl ⟨51, by decide, if_pos h2⟩
  rw [if_neg h2]
  by_cases h3 : 64 < (headR l).m
  · exact .inl ⟨33, by decide, if_pos h3⟩
  rw [if_neg h3]
  by_cases h4 : (l.drop 13).length < fieldsN (headR l).op
  · exact .inl ⟨50, by decide, if_pos h4⟩
  rw [if_neg h4]
  by_cases h5 : ((headR l).op ≠ 3 ∧ fieldsN (headR l).op < (l.drop 13).length) ∨ 512 < (l.drop 13).length
  · exact .inl ⟨2, by decide, if_pos h5⟩
  rw [if_neg h5]
  by_cases h6 : rangeB (bodyQ l) = false
  · exact .inl ⟨33, by decide, if_pos h6⟩
  rw [if_neg h6]
  exact .inr rfl
theorem dec_cases (l : List UInt8) : (Good l ∧ dec l = (bodyQ l, 0)) ∨ ((dec l).1 = zeroR 0 ∧ (dec l).2 ≠ 0) := by
  rw [dec_eq]
  rcases rdec_two l with ⟨n, hn, e⟩ | e
  · exact .inr ⟨by rw [e], by rw [e]; exact hn⟩
  · exact .inl ⟨((rdec_iff _ _).1 e).1, e⟩
set_option maxRecDepth 100000 in
set_option maxHeartbeats 4000000 in
@[go_sem high] theorem eqReq0 (x : Req) (w : World) : (Op.equalIn 10000 31 (.agg (rqC x)) (.agg zeroC)).run Try.prog w = .ok (reqEq x (zeroR 0)) w := eqReq x (zeroR 0) w

set_option maxRecDepth 100000 in
set_option maxHeartbeats 4000000 in
theorem law_back (q : Req) (hq : q.fits) (l : List UInt8) (s : Value) (w : World) (hs : Sl byC w w.heap.size s l) : Calls Try.prog 7 #[.agg (rqC q), s] w (Holds w) := by
  have HQ := Lib.hid hq
  have HS := Lib.hid hs
  obtain ⟨A, cap, rfl, -⟩ := hs
  have hr := RQ.new w q
  obtain ⟨w1, hst1⟩ : ∃ w1, w.alloc (.cells (rqC q) 31) = w1 := ⟨_, rfl⟩
  rw [hst1] at hr
  have HRw1 := Lib.hid hr
  clear hr hq
  go_enter Try.func7, Try.ntmps7
  go_wp2_with (refine wpList_load_row rfl 31 (.tmp 2) rfl w.heap.size rfl 31 (rqC q) (0, 0) _ HRw1.out.b0 Try.underlying31 rfl (rq_size _) ?_)
  refine (Encode_ok q _ HQ.out).mono ?_
  rintro e w2 ⟨v, lx, rfl, hs2, h0, h1, hb⟩
  have HRw2 := Lib.hid (HRw1.out.below hb)
  have HSX := Lib.hid hs2
  obtain ⟨Ax, cx, rfl, -⟩ := hs2
  clear hb
  have HDC := Lib.hid (dec_cases l)
  by_cases hE : encE q = 0
  · have hl := h0 hE
    subst hl
    have hg := enc_good (encE_ok hE)
    have hd : dec (encL q) = (q, 0) := by rw [dec_eq]; exact (rdec_iff _ _).2 hg
    have HD := Lib.hid hd
    rw [hE]
    clear h0 h1 hE hg hd
    go_wp2_with fail
    refine (decode_ok (encL q) _ w2 HSX.out).mono ?_
    rintro e w3 ⟨rfl, hb3⟩
    rw [HD.out]
    have HRw3 := Lib.hid (HRw2.out.below hb3)
    clear hb3
    have HNya := Lib.hid (Blk.new w3 31 zeroC)
    obtain ⟨ya, hstya⟩ : ∃ x, w3.alloc (.cells zeroC 31) = x := ⟨_, rfl⟩
    rw [hstya] at HNya
    have HNyb := Lib.hid (HNya.out.row (rqC q))
    have HRyb := Lib.hid (show RQ w (ya.setRow w3.heap.size (rqC q)) q by rw [← hstya]; exact HRw3.out.stored q)
    obtain ⟨yb, hstyb⟩ : ∃ x, ya.setRow w3.heap.size (rqC q) = x := ⟨_, rfl⟩
    rw [hstyb] at HNyb HRyb
    have hzyb : yb.heap.size = w3.heap.size + 1 := by rw [← hstyb, ← hstya]; simp
    have HE := reqEq_self q
    have ly := loadReq_row HNyb.out
    have lq := loadReq_row HRyb.out.b0
    go_wp2_with (refine wpList_store_row rfl 31 (.tmp 7) (.tmp 23) rfl w3.heap.size (rqC q) rfl rfl 31 zeroC HNya.out (rq_size _) rfl (rq_one _) ?_)
    refine (decode_ok l _ yb (HS.out.below HRyb.out.bel |>.more HRyb.out.bel.size)).mono ?_
    rintro e wd ⟨rfl, hbd⟩
    have HRwd := Lib.hid (HRyb.out.below hbd)
    clear hbd
    rcases HDC.out with ⟨hgood, hdl⟩ | ⟨hz, hne⟩
    · rw [hdl]
      have HG := Lib.hid hgood
      have HF := Lib.hid (good_fits hgood)
      have HE2 := Lib.hid (good_encE hgood)
      have HL2 := Lib.hid (good_enc hgood).2
      clear hgood hdl
      obtain ⟨Z, hZ⟩ : ∃ Z, bodyQ l = Z := ⟨_, rfl⟩
      rw [hZ] at HF HE2 HL2 ⊢
      clear hZ
      have HNza := Lib.hid (Blk.new wd 31 zeroC)
      obtain ⟨za, hstza⟩ : ∃ x, wd.alloc (.cells zeroC 31) = x := ⟨_, rfl⟩
      rw [hstza] at HNza
      have HNzb := Lib.hid (HNza.out.row (rqC Z))
      have HRzb := Lib.hid (show RQ w (za.setRow wd.heap.size (rqC Z)) q by rw [← hstza]; exact HRwd.out.stored Z)
      obtain ⟨zb, hstzb⟩ : ∃ x, za.setRow wd.heap.size (rqC Z) = x := ⟨_, rfl⟩
      rw [hstzb] at HNzb HRzb
      have hzzb : zb.heap.size = wd.heap.size + 1 := by rw [← hstzb, ← hstza]; simp

      have HEZ := HE2.out.2
      go_wp2_with (first | (refine wpList_store_row rfl 31 (.tmp 9) (.tmp 35) rfl wd.heap.size (rqC Z) rfl rfl 31 zeroC HNza.out (rq_size _) rfl (rq_one _) ?_) | (refine wpList_load_row rfl 31 (.tmp 9) rfl wd.heap.size rfl 31 (rqC Z) (0, 0) _ HNzb.out Try.underlying31 rfl (rq_size _) ?_))
      refine (Encode_ok Z _ HF.out).mono ?_
      rintro e w6 ⟨v6, l6, rfl, hs6, h60, -, hb6⟩
      have hl6 := h60 HE2.out.2
      rw [HL2.out] at hl6
      subst hl6
      have HRw6 := Lib.hid (HRzb.out.below hb6)
      have HN6 := Lib.hid (HNzb.out.below hb6 HNzb.out.lt)
      have HS6 := Lib.hid hs6
      obtain ⟨A6, c6, rfl, -⟩ := hs6
      rw [HE2.out.2]
      clear h60 hb6
      go_wp2_with (refine wpList_load_row rfl 31 (.tmp 9) rfl wd.heap.size rfl 31 (rqC Z) (0, 0) _ HN6.out Try.underlying31 rfl (rq_size _) ?_)
      refine (Right_ok Z _ HF.out).mono ?_
      rintro e w7 ⟨rfl, hb7⟩
      have HRw7 := Lib.hid (HRw6.out.below hb7)
      have HS7 := Lib.hid ((HS6.out.below hb7).more hb7.size)
      rw [HE2.out.1]
      clear hb7
      go_wp2_with fail
      refine (rsame_ok _ _ _ _ _ w7.heap.size HS7.out (HS.out.below HRw7.out.bel |>.more HRw7.out.bel.size)).mono ?_
      rintro e w8 ⟨rfl, n8, hw8⟩
      have HRw8 := Lib.hid (show RQ w w8 q by rw [hw8]; exact ⟨HRw7.out.b0, below_drewN HRw7.out.bel n8⟩)
      rw [decide_eq_true rfl]
      clear hw8
      go_wp2_with fail
      refine (known_ok _).mono ?_
      rintro e w9 ⟨rfl, hb9⟩
      have HRw9 := Lib.hid (HRw8.out.below hb9)
      clear hb9
      go_wp2_with fail
      go_ret
      exact ⟨rfl, HRw9.out.bel⟩
    · obtain ⟨dz, hdz⟩ : ∃ d, dec l = d := ⟨_, rfl⟩
      rw [hdz] at hz hne ⊢
      have hne1 : (dz.2 != 0) = true := by simp [hne]
      have HZ := Lib.hid hz
      have hzz : reqEq dz.1 (zeroR 0) = true := by rw [hz]; exact reqEq_self _
      clear hz hne hdz
      have HNza := Lib.hid (Blk.new wd 31 zeroC)
      obtain ⟨za, hstza⟩ : ∃ x, wd.alloc (.cells zeroC 31) = x := ⟨_, rfl⟩
      rw [hstza] at HNza
      have HNzb := Lib.hid (HNza.out.row (rqC dz.1))
      have HRzb := Lib.hid (show RQ w (za.setRow wd.heap.size (rqC dz.1)) q by rw [← hstza]; exact HRwd.out.stored dz.1)
      obtain ⟨zb, hstzb⟩ : ∃ x, za.setRow wd.heap.size (rqC dz.1) = x := ⟨_, rfl⟩
      rw [hstzb] at HNzb HRzb
      have hzzb : zb.heap.size = wd.heap.size + 1 := by rw [← hstzb, ← hstza]; simp

      go_wp2_with (first | (refine wpList_store_row rfl 31 (.tmp 9) (.tmp 35) rfl wd.heap.size (rqC dz.1) rfl rfl 31 zeroC HNza.out (rq_size _) rfl (rq_one _) ?_) | (refine wpList_load_row rfl 31 (.tmp 9) rfl wd.heap.size rfl 31 (rqC dz.1) (0, 0) _ HNzb.out Try.underlying31 rfl (rq_size _) ?_))
      refine (known_ok _).mono ?_
      rintro e w9 ⟨rfl, hb9⟩
      have HRw9 := Lib.hid (HRzb.out.below hb9)
      clear hb9
      go_wp2_with fail
      go_ret
      exact ⟨rfl, HRw9.out.bel⟩
  · have hE1 : (encE q == 0) = false := by simpa using hE
    clear h0 h1 hE
    generalize encE q = E at *
    go_wp2_with fail
    refine (decode_ok l _ w2 (HS.out.below HRw2.out.bel |>.more HRw2.out.bel.size)).mono ?_
    rintro e wd ⟨rfl, hbd⟩
    have HRwd := Lib.hid (HRw2.out.below hbd)
    clear hbd
    rcases HDC.out with ⟨hgood, hdl⟩ | ⟨hz, hne⟩
    · rw [hdl]
      have HG := Lib.hid hgood
      have HF := Lib.hid (good_fits hgood)
      have HE2 := Lib.hid (good_encE hgood)
      have HL2 := Lib.hid (good_enc hgood).2
      clear hgood hdl
      obtain ⟨Z, hZ⟩ : ∃ Z, bodyQ l = Z := ⟨_, rfl⟩
      rw [hZ] at HF HE2 HL2 ⊢
      clear hZ
      have HNza := Lib.hid (Blk.new wd 31 zeroC)
      obtain ⟨za, hstza⟩ : ∃ x, wd.alloc (.cells zeroC 31) = x := ⟨_, rfl⟩
      rw [hstza] at HNza
      have HNzb := Lib.hid (HNza.out.row (rqC Z))
      have HRzb := Lib.hid (show RQ w (za.setRow wd.heap.size (rqC Z)) q by rw [← hstza]; exact HRwd.out.stored Z)
      obtain ⟨zb, hstzb⟩ : ∃ x, za.setRow wd.heap.size (rqC Z) = x := ⟨_, rfl⟩
      rw [hstzb] at HNzb HRzb
      have hzzb : zb.heap.size = wd.heap.size + 1 := by rw [← hstzb, ← hstza]; simp

      have HEZ := HE2.out.2
      go_wp2_with (first | (refine wpList_store_row rfl 31 (.tmp 9) (.tmp 35) rfl wd.heap.size (rqC Z) rfl rfl 31 zeroC HNza.out (rq_size _) rfl (rq_one _) ?_) | (refine wpList_load_row rfl 31 (.tmp 9) rfl wd.heap.size rfl 31 (rqC Z) (0, 0) _ HNzb.out Try.underlying31 rfl (rq_size _) ?_))
      refine (Encode_ok Z _ HF.out).mono ?_
      rintro e w6 ⟨v6, l6, rfl, hs6, h60, -, hb6⟩
      have hl6 := h60 HE2.out.2
      rw [HL2.out] at hl6
      subst hl6
      have HRw6 := Lib.hid (HRzb.out.below hb6)
      have HN6 := Lib.hid (HNzb.out.below hb6 HNzb.out.lt)
      have HS6 := Lib.hid hs6
      obtain ⟨A6, c6, rfl, -⟩ := hs6
      rw [HE2.out.2]
      clear h60 hb6
      go_wp2_with (refine wpList_load_row rfl 31 (.tmp 9) rfl wd.heap.size rfl 31 (rqC Z) (0, 0) _ HN6.out Try.underlying31 rfl (rq_size _) ?_)
      refine (Right_ok Z _ HF.out).mono ?_
      rintro e w7 ⟨rfl, hb7⟩
      have HRw7 := Lib.hid (HRw6.out.below hb7)
      have HS7 := Lib.hid ((HS6.out.below hb7).more hb7.size)
      rw [HE2.out.1]
      clear hb7
      go_wp2_with fail
      refine (rsame_ok _ _ _ _ _ w7.heap.size HS7.out (HS.out.below HRw7.out.bel |>.more HRw7.out.bel.size)).mono ?_
      rintro e w8 ⟨rfl, n8, hw8⟩
      have HRw8 := Lib.hid (show RQ w w8 q by rw [hw8]; exact ⟨HRw7.out.b0, below_drewN HRw7.out.bel n8⟩)
      rw [decide_eq_true rfl]
      clear hw8
      go_wp2_with fail
      refine (known_ok _).mono ?_
      rintro e w9 ⟨rfl, hb9⟩
      have HRw9 := Lib.hid (HRw8.out.below hb9)
      clear hb9
      go_wp2_with fail
      go_ret
      exact ⟨rfl, HRw9.out.bel⟩
    · obtain ⟨dz, hdz⟩ : ∃ d, dec l = d := ⟨_, rfl⟩
      rw [hdz] at hz hne ⊢
      have hne1 : (dz.2 != 0) = true := by simp [hne]
      have HZ := Lib.hid hz
      have hzz : reqEq dz.1 (zeroR 0) = true := by rw [hz]; exact reqEq_self _
      clear hz hne hdz
      have HNza := Lib.hid (Blk.new wd 31 zeroC)
      obtain ⟨za, hstza⟩ : ∃ x, wd.alloc (.cells zeroC 31) = x := ⟨_, rfl⟩
      rw [hstza] at HNza
      have HNzb := Lib.hid (HNza.out.row (rqC dz.1))
      have HRzb := Lib.hid (show RQ w (za.setRow wd.heap.size (rqC dz.1)) q by rw [← hstza]; exact HRwd.out.stored dz.1)
      obtain ⟨zb, hstzb⟩ : ∃ x, za.setRow wd.heap.size (rqC dz.1) = x := ⟨_, rfl⟩
      rw [hstzb] at HNzb HRzb
      have hzzb : zb.heap.size = wd.heap.size + 1 := by rw [← hstzb, ← hstza]; simp

      go_wp2_with (first | (refine wpList_store_row rfl 31 (.tmp 9) (.tmp 35) rfl wd.heap.size (rqC dz.1) rfl rfl 31 zeroC HNza.out (rq_size _) rfl (rq_one _) ?_) | (refine wpList_load_row rfl 31 (.tmp 9) rfl wd.heap.size rfl 31 (rqC dz.1) (0, 0) _ HNzb.out Try.underlying31 rfl (rq_size _) ?_))
      refine (known_ok _).mono ?_
      rintro e w9 ⟨rfl, hb9⟩
      have HRw9 := Lib.hid (HRzb.out.below hb9)
      clear hb9
      go_wp2_with fail
      go_ret
      exact ⟨rfl, HRw9.out.bel⟩

theorem wireBack_lifted (os : Os) (started : os.Started) (H : Type) (enc : TypeId × Value → H) :
    ReturnsInHanded {} Try.checked os 7 .any (Rows.wireBackSpec.pre6 enc Try.prog Try.f7 Rows.wireBackRow.domain false) (Rows.wireBackSpec.post enc Try.prog Try.f7 false true false false) := by
  refine law_lifts_sized (C := Try.checked) knob_none laid_out started (by kernel_rfl) Try.func7 Try.underlying4 rfl (fun t ht => ?_) rfl (fun ds hd => ?_)
    (ChangeSpec.witness6 (enc := enc) (C := Try.checked) false ⟨#[], #[.agg #[.int .i64 0, .int .i64 0, .int .i64 0, .int .u64 0, .int .i64 0, .int .i64 0, .int .i64 0, .int .i64 0, .int .i64 0, .string ⟨#[]⟩, .int .i64 0, .int .i64 0, .int .i64 0, .int .i64 0, .int .i64 0, .int .i64 0, .int .i64 0, .int .u64 0, .int .i64 0, .int .u64 0, .int .i64 0, .int .i64 0, .int .i64 0, .int .i64 0], .slice none 0 0], []⟩ 8 (by kernel_rfl) (by kernel_rfl) (by kernel_rfl) (by kernel_rfl)) ?_
  · have h : ([22, 31] : List TypeId).all (fun t => Try.prog.readableRec t && decide (t < Try.prog.types.size)) = true := by kernel_rfl
    have hm : t ∈ ([22, 31] : List TypeId) := by
      have : t ∈ ([31, 22] : List TypeId) := ht
      simp only [List.mem_cons, List.not_mem_nil, or_false] at this ⊢
      rcases this with rfl | rfl <;> simp
    have := List.all_eq_true.1 h t hm
    simp only [Bool.and_eq_true, decide_eq_true_eq] at this
    exact this
  · match ds, hd with
    | [d1, d2], _ => exact ⟨rfl, rfl, rfl⟩
  · intro W base args ds ps hval hA hwt
    have hA' : DataW.TrodAll enc Try.prog W 0 (fun _ => true) true [31, 22] args.toList ds ps := hA
    obtain ⟨v0, v1, d0, d1, p0, p1, rfl, rfl, rfl, h0, h1⟩ := trodAll_two hA'
    obtain ⟨q, rfl, hok, hm⟩ := open_req (hval 0 31 v0 rfl rfl) h0
    obtain ⟨l, hl⟩ := open_bytes (hval 1 22 v1 rfl rfl) h1
    exact law_back q (req_fits hok (j := 0) (d := d0) rfl rfl hm hwt) l v1 W hl

theorem wireBack_holds : Rows.WireBackSaid :=
  OpenClaim.holds_of_wide 7 Try.f7 rfl rfl rfl rfl rfl rfl rfl ⟨rfl, rfl, rfl, rfl, rfl⟩ rfl rfl rfl rfl rfl (by kernel_rfl) Try.func7 (by kernel_rfl)
    (of_decide_eq_true (by kernel_rfl)) (by unfold Func.isWrapper; rw [if_neg (of_decide_eq_false (by kernel_rfl))]; exact ⟨rfl, rfl⟩)
    (fun os started H enc _ => wireBack_lifted os started H enc)
end Go.Proofs.Ytejmceihgndbhaa
