/-
  The codec's steps: long and text, in the three modes. Conditions: as each states.
-/
import Derived.Test.YtldjgpnbkbmgoaaGreatDoorCodec
import Derived.Lib.AppendStr
import Derived.Laws.IdiomStrings
import Derived.Laws.BytesArg
namespace Go.Proofs.YtldjgpnbkbmgoaaGreatDoor
open Go.RowKit Go.Lib

set_option maxRecDepth 100000 in
set_option maxHeartbeats 1000000 in
theorem long_reads (w : World) (base c : Nat) (l : List UInt8) (n : Int) (bad : Bool) (h : Cod w base c ⟨2, l, n, bad⟩) (r off : Nat) (T : TypeId) (cs : Array Value) (x : Int) (hr : Blk w r T cs) (hx : cs[off]? = some (.int .u64 x)) (hcr : c ≠ r) (hbr : base ≤ r)
    (hkl : 8 ≤ l.length) (hn0 : 0 ≤ n) (hn1 : n ≤ 1000) :
    Calls Tryz.prog 141 #[.pointer (some ⟨c, 0, none⟩), .pointer (some ⟨r, off, none⟩)] w
      (NumPost w base c ⟨2, l.drop 8, n + 8, bad⟩ r T (cs.setIfInBounds off (.int .u64 (beNat (l.take 8) : Nat)))) := by
  obtain ⟨A, cap, hb, hbc, -, hs⟩ := h
  have HS := Lib.hid (hs (by intro h; cases h))
  obtain ⟨A', cap', e, h1, h2, h3⟩ := HS.out
  injection e with e1 e2 e3
  subst e1; subst e3
  clear e2 h3 hs
  have c2 := hb.is 2 rfl
  have f2 := hb.frozen 2
  have HB := Lib.hid (hb.put 2 (.int .i64 (n + 8)))
  have HR := Lib.hid (hr.far (p := ⟨c, 2, none⟩) (fun e => hcr e.symm) (.int .i64 (n + 8)))
  have HW := Lib.hid ((Below.refl base w).setCell (p := ⟨c, 2, none⟩) hbc (.int .i64 (n + 8)))
  obtain ⟨w1, hst⟩ : ∃ w1, w.setCell ⟨c, 2, none⟩ (.int .i64 (n + 8)) = w1 := ⟨_, rfl⟩
  rw [hst] at HB HR HW
  have c0 := HB.out.is 0 rfl
  have f0 := HB.out.frozen 0
  clear hb hr
  go_enter Tryz.func141, Tryz.ntmps141
  go_wp2_with fail
  refine (take_ok w1 c 2 (n + 8) A l.length cap bad HB.out h1 h2 8 hkl).mono ?_
  rintro e w2 ⟨rfl, hw2⟩
  have HB2 := Lib.hid (HB.out.put 1 (.slice (cutA A cap 8 1) (l.length - 8) (cap - 8)))
  have HR2 := Lib.hid (HR.out.far (p := ⟨c, 1, none⟩) (fun e => hcr e.symm) (.slice (cutA A cap 8 1) (l.length - 8) (cap - 8)))
  have HW2 := Lib.hid (HW.out.setCell (p := ⟨c, 1, none⟩) hbc (.slice (cutA A cap 8 1) (l.length - 8) (cap - 8)))
  rw [← hw2] at HB2 HR2 HW2
  clear hw2 c0 c2 f2 f0 HB HR HW hst
  have HSb := Lib.hid ((HS.out.below HW2.out))
  go_wp2_with fail
  refine (get_ok (l.take 8) _ w2 base (HSb.out.pre by_enc hkl) (by simp; omega) (by simp; omega)).mono ?_
  rintro e w' ⟨rfl, hw'⟩
  rw [hw']
  clear hw' w'
  obtain ⟨v, hvv⟩ : ∃ v, v = beNat (l.take 8) := ⟨_, rfl⟩
  rw [← hvv]
  have d1 := HR2.out.is off hx
  have g1 := HR2.out.frozen off
  go_wp2_with fail
  refine bodyPost_ret (results_none rfl _ _ _) rfl ?_
  have HW3 := HW2.out.setCell (p := ⟨r, off, none⟩) hbr (.int .u64 (beNat (l.take 8) : Nat))
  exact ⟨rfl, Cod.read (HB2.out.far (p := ⟨r, off, none⟩) hcr _) (by simp) hbc ((HS.out.cut by_enc hkl).below HW3), HR2.out.put off _, HW3⟩

set_option maxRecDepth 100000 in
set_option maxHeartbeats 1000000 in
theorem long_writes (w : World) (base c : Nat) (l : List UInt8) (n : Int) (bad : Bool) (h : Cod w base c ⟨0, l, n, bad⟩) (r off : Nat) (T : TypeId) (cs : Array Value) (x : Nat) (hr : Blk w r T cs) (hx : cs[off]? = some (.int .u64 x)) (hcr : c ≠ r)
    (hn0 : 0 ≤ n) (hn1 : n ≤ 1000) (hT : 5 ≠ T) (hm : x < 256 ^ 8) (hl : l.length ≤ 100000) :
    Calls Tryz.prog 141 #[.pointer (some ⟨c, 0, none⟩), .pointer (some ⟨r, off, none⟩)] w
      (NumPost w base c ⟨0, l ++ toBE 8 x, n + 8, bad⟩ r T cs) := by
  obtain ⟨A, cap, hb, hbc, ho, -⟩ := h
  have HO := Lib.hid (ho rfl)
  have HX := Lib.hid hm
  have HX2 := Lib.hid (Nat.lt_of_lt_of_le hm (Nat.le_of_eq (by decide : 256 ^ 8 = 18446744073709551616)))
  clear ho hm
  have c2 := hb.is 2 rfl
  have f2 := hb.frozen 2
  have HB := Lib.hid (hb.put 2 (.int .i64 (n + 8)))
  have HR := Lib.hid (hr.far (p := ⟨c, 2, none⟩) (fun e => hcr e.symm) (.int .i64 (n + 8)))
  have HW := Lib.hid ((Below.refl base w).setCell (p := ⟨c, 2, none⟩) hbc (.int .i64 (n + 8)))
  have HO1 := Lib.hid (HO.out.set (p := ⟨c, 2, none⟩) (.int .i64 (n + 8)) (HO.out.ne_blk hb (by decide)))
  obtain ⟨w1, hst⟩ : ∃ w1, w.setCell ⟨c, 2, none⟩ (.int .i64 (n + 8)) = w1 := ⟨_, rfl⟩
  rw [hst] at HB HR HW HO1
  have c0 := HB.out.is 0 rfl
  have f0 := HB.out.frozen 0
  have d1 := HR.out.is off hx
  have g1 := HR.out.frozen off
  clear hb hr HO
  go_enter Tryz.func141, Tryz.ntmps141
  go_wp2_with fail
  refine (put_ok x 8 w1 (by decide) (by decide) HX2.out HX.out).mono ?_
  rintro e w2 ⟨v, rfl, hv, hw2⟩
  have HS := Lib.hid hv.sl
  have HB2 := Lib.hid (HB.out.below hw2 HB.out.lt)
  have HR2 := Lib.hid (HR.out.below hw2 HR.out.lt)
  have HO2 := Lib.hid (HO1.out.keep fun b hb => hw2.block b (HO1.out.lt b hb).2)
  have hsz : base ≤ w2.heap.size := Nat.le_of_lt (Nat.lt_of_le_of_lt hbc HB2.out.lt)
  have HW2 := Lib.hid (HW.out.trans (hw2.mono (Nat.le_of_lt (Nat.lt_of_le_of_lt hbc HB.out.lt))))
  have c1 := HB2.out.is 1 rfl
  have f1 := HB2.out.frozen 1
  have hne1 := HO2.out.ne_blk HB2.out (by decide)
  have hne2 := HO2.out.ne_blk HR2.out hT
  clear hv hw2
  go_wp2_with (at_builtin; (refine app_sl by_elem by_enc rfl (.tmp 30) (.tmp 31) rfl rfl HO2.out v rfl (toBE 8 x) _ HS.out (by rw [toBE_len]; decide) (by rw [toBE_len]; unfold maxLen; omega) (by rw [toBE_len]; omega) hsz ?_; intro g' cap' w3 hown3 hgrow hat hlt3; have HB3 := Lib.hid (HB2.out.grown hgrow (fun e => hne1 e.symm)); have HR3 := Lib.hid (HR2.out.grown hgrow (fun e => hne2 e.symm)); have b1 := HB3.out.is 1 rfl; have b0 := HB3.out.frozen 1; have HO3 := Lib.hid hown3; have HW3 := Lib.hid (HW2.out.grown hgrow hsz (fun g hg => (HO2.out.lt g hg).1)); clear hown3 hgrow hat))
  refine bodyPost_ret (results_none rfl _ _ _) rfl ?_
  rw [← List.length_append]
  exact ⟨rfl, ⟨_, _, HB3.out.put 1 _, hbc, fun _ => HO3.out.set _ (HO3.out.ne_blk HB3.out (by decide)), fun e => absurd rfl e⟩, HR3.out.far (fun e => hcr e.symm) _, HW3.out.setCell hbc _⟩

set_option maxRecDepth 100000 in
set_option maxHeartbeats 1000000 in
theorem long_counts (w : World) (base c : Nat) (l : List UInt8) (n : Int) (bad : Bool) (h : Cod w base c ⟨1, l, n, bad⟩) (r off : Nat) (T : TypeId) (cs : Array Value) (hr : Blk w r T cs) (hcr : c ≠ r)
    (hn0 : 0 ≤ n) (hn1 : n ≤ 1000) :
    Calls Tryz.prog 141 #[.pointer (some ⟨c, 0, none⟩), .pointer (some ⟨r, off, none⟩)] w
      (NumPost w base c ⟨1, l, n + 8, bad⟩ r T cs) := by
  obtain ⟨A, cap, hb, hbc, -, hs⟩ := h
  have HS := Lib.hid (hs (by intro h; cases h))
  clear hs
  have c2 := hb.is 2 rfl
  have f2 := hb.frozen 2
  have HB := Lib.hid (hb.put 2 (.int .i64 (n + 8)))
  have HR := Lib.hid (hr.far (p := ⟨c, 2, none⟩) (fun e => hcr e.symm) (.int .i64 (n + 8)))
  have HW := Lib.hid ((Below.refl base w).setCell (p := ⟨c, 2, none⟩) hbc (.int .i64 (n + 8)))
  obtain ⟨w1, hst⟩ : ∃ w1, w.setCell ⟨c, 2, none⟩ (.int .i64 (n + 8)) = w1 := ⟨_, rfl⟩
  rw [hst] at HB HR HW
  have c0 := HB.out.is 0 rfl
  have f0 := HB.out.frozen 0
  clear hb hr
  go_enter Tryz.func141, Tryz.ntmps141
  go_wp2_with fail
  refine bodyPost_ret (results_none rfl _ _ _) rfl ?_
  exact ⟨rfl, Cod.read HB.out rfl hbc (HS.out.below HW.out), HR.out, HW.out⟩

/-- A string's bytes. -/
abbrev strV (t : List UInt8) : Value := .string ⟨t.toArray⟩
@[simp, go_sem high] theorem str_size (t : List UInt8) : (ByteArray.mk t.toArray).size = t.length := by show t.toArray.size = _; simp
theorem strCells_by (t : List UInt8) : strCells ⟨t.toArray⟩ = t.flatMap byC := by
  unfold strCells
  induction t with
  | nil => rfl
  | cons a t ih => simp_all [byC]

/-- A string's bytes are appended: at a step of a region that draws its order. -/
theorem step_str {w : World} {base : Nat} {v : Value} {l : List UInt8} {ops : Array Oper} {o : Oper} {a : Act} {K : Act → World → Prop} {Q : Exit → Act → World → Prop} {Z : Prop} (hgd : o.guard = none) (s x : Operand)
    (ho : o.op = .call { callee := .builtin .append, args := #[s, x], argTypes := #[52, 9] }) (hs : a.eval s = v) (hown : Own byC 1 5 w base v l)
    (t : List UInt8) (hx : a.eval x = strV t) (hbytes : l.length + t.length ≤ 140737488355328) (hbase : base ≤ w.heap.size)
    (h : ∀ A cap w', Own byC 1 5 w' base (.slice A (l ++ t).length cap) (l ++ t) → w.grownBy w' v.ownBlock → K (a.put o.dst (.slice A (l ++ t).length cap)) w') : if Region.wanted o (yielded ops a.tmps) = true then Oper.wp Tryz.prog o a w K Q else Z := by
  have hw : Region.wanted o (yielded ops a.tmps) = true := by simp [Region.wanted, hgd]
  rw [if_pos hw]
  obtain ⟨i, z, hi, hz, hsz, hby, hzs⟩ := by_elem.inf
  have hz' : z = .int .u8 0 := by
    have : (Tryz.prog.info? 5).map (·.zero) = some (some (.int .u8 0)) := by kernel_rfl
    rw [hi, Option.map_some, Option.some.injEq, hz, Option.some.injEq] at this
    exact this
  rw [hz'] at hz
  obtain ⟨v', w', hr, h2, h3, h4⟩ := run_append_own_string (P := Tryz.prog) w base 52 9 o.type 5 i Tryz.underlying52 Tryz.underlying9 hi hz hsz hby v l.length _ hown ⟨t.toArray⟩ (by rw [str_size]; unfold maxLen; omega) (by rw [str_size]; exact hbytes) hbase
  rw [strCells_by, str_size] at h2
  have hown' : Own byC 1 5 w' base v' (l ++ t) := by
    unfold Own
    rw [List.flatMap_append, List.length_append]
    exact h2
  obtain ⟨A, cap, rfl⟩ := hown'.form
  unfold Oper.wp execOp
  simp only [ho, resolve, invoke, builtin, Sem.run_bind, Sem.run_pure, Result.andThen_ok, List.map_toArray, List.map_cons, List.map_nil, hs, hx, hr]
  exact h A cap w' hown' h3

theorem dec_nat (n : Nat) : decide (512 < n) = decide ((512 : Int) < (n : Int)) := by
  rw [decide_eq_decide]
  omega
set_option maxRecDepth 100000 in
/-- 'string(b)'. -/
theorem Sl.str {w : World} {B : Nat} {l : List UInt8} {A : Option Addr} {n c : Nat} (h : Sl byC w B (.slice A n c) l) : (convert 52 9 (.slice A n c)).run Tryz.prog w = .ok (strV l) w := by
  obtain ⟨A', cap', e, h1, h2, h3⟩ := h
  injection e with e1 e2 e3
  subst e1; subst e2; subst e3
  by_cases h0 : 0 < l.length
  · obtain ⟨b, off, rfl, hb, hlay⟩ := h3 h0
    refine run_convert_bytes_back w 52 9 5 _ _ l Tryz.underlying52 Tryz.underlying5 Tryz.underlying9 fun j hj => ?_
    have hadd : (⟨b, off, none⟩ : Addr).add j = ⟨b, off + j, none⟩ := by unfold Addr.add; split <;> simp_all
    rw [hadd]
    refine hlay j _ ?_
    rw [by_flat, List.getElem?_eq_getElem hj]
    rfl
  · have hl : l = [] := List.eq_nil_of_length_eq_zero (by omega)
    subst hl
    rw [run_convert_bytes_string w _ _ 5 _ _ _ Tryz.underlying52 Tryz.underlying5 Tryz.underlying9]
    cases A <;> simp [Conv.bytesToString, strV] <;> rfl

set_option maxRecDepth 100000 in
set_option maxHeartbeats 1000000 in
theorem text_writes (w : World) (base c : Nat) (l : List UInt8) (n : Int) (bad : Bool) (h : Cod w base c ⟨0, l, n, bad⟩) (r off : Nat) (T : TypeId) (cs : Array Value) (t : List UInt8) (hr : Blk w r T cs) (hx : cs[off]? = some (strV t)) (hcr : c ≠ r)
    (hT : 5 ≠ T) (hl : l.length + t.length ≤ 140737488355328) :
    Calls Tryz.prog 183 #[.pointer (some ⟨c, 0, none⟩), .pointer (some ⟨r, off, none⟩)] w
      (NumPost w base c ⟨0, l ++ t, n, bad || decide (512 < t.length)⟩ r T cs) := by
  obtain ⟨A, cap, hb, hbc, ho, -⟩ := h
  have HO := Lib.hid (ho rfl)
  clear ho
  have c0 := hb.is 0 rfl
  have c3 := hb.is 3 rfl
  have f3 := hb.frozen 3
  have e1 := hr.is off hx
  have g0 := hr.frozen off
  have HB := Lib.hid (hb.put 3 (.bool (bad || decide ((512 : Int) < (t.length : Int)))))
  have HR := Lib.hid (hr.far (p := ⟨c, 3, none⟩) (fun e => hcr e.symm) (.bool (bad || decide ((512 : Int) < (t.length : Int)))))
  have HW := Lib.hid ((Below.refl base w).setCell (p := ⟨c, 3, none⟩) hbc (.bool (bad || decide ((512 : Int) < (t.length : Int)))))
  have HO1 := Lib.hid (HO.out.set (p := ⟨c, 3, none⟩) (.bool (bad || decide ((512 : Int) < (t.length : Int)))) (HO.out.ne_blk hb (by decide)))
  obtain ⟨w1, hst⟩ : ∃ w1, w.setCell ⟨c, 3, none⟩ (.bool (bad || decide ((512 : Int) < (t.length : Int)))) = w1 := ⟨_, rfl⟩
  rw [hst] at HB HR HW HO1
  have hsz : base ≤ w1.heap.size := Nat.le_of_lt (Nat.lt_of_le_of_lt hbc HB.out.lt)
  have c1 := HB.out.is 1 rfl
  have f1 := HB.out.frozen 1
  have d1 := HR.out.is off hx
  have g1 := HR.out.frozen off
  have hne1 := HO1.out.ne_blk HB.out (by decide)
  have hne2 := HO1.out.ne_blk HR.out hT
  clear hb hr HO
  cases bad
  all_goals
    simp only [Bool.false_or, Bool.true_or] at *
    go_enter Tryz.func183, Tryz.ntmps183
    go_wp2_with fail
    go_region_law ((refine step_str rfl (.tmp 28) (.tmp 31) rfl rfl (by exact HO1.out) t rfl hl (by exact hsz) ?_); intro A3 cap3 w3 hown3 hgrow; have HB3 := Lib.hid (Blk.grown (Blk.drewN HB.out 1) hgrow (fun e => hne1 e.symm)); have b1 := HB3.out.is 1 rfl; have b0 := HB3.out.frozen 1)
    all_goals
      go_wp2_with fail
      refine bodyPost_ret (results_none rfl _ _ _) rfl ?_
      rw [← List.length_append]
      try rw [dec_nat]
      have HR3 := HR.out.drewN 1 |>.grown hgrow (fun e => hne2 e.symm)
      have HW3 := (below_drewN HW.out 1).grown hgrow (by exact hsz) (fun g hg => (HO1.out.lt g hg).1)
      exact ⟨rfl, ⟨_, _, HB3.out.put 1 _, hbc, fun _ => hown3.set _ (hown3.ne_blk HB3.out (by decide)), fun e => absurd rfl e⟩, HR3.far (fun e => hcr e.symm) _, HW3.setCell hbc _⟩

set_option maxRecDepth 100000 in
set_option maxHeartbeats 1000000 in
theorem text_reads (w : World) (base c : Nat) (l : List UInt8) (n : Int) (bad : Bool) (h : Cod w base c ⟨2, l, n, bad⟩) (r off : Nat) (T : TypeId) (cs : Array Value) (t : List UInt8) (hr : Blk w r T cs) (hx : cs[off]? = some (strV t)) (hcr : c ≠ r) (hbr : base ≤ r) :
    Calls Tryz.prog 183 #[.pointer (some ⟨c, 0, none⟩), .pointer (some ⟨r, off, none⟩)] w
      (NumPost w base c ⟨2, [], n, bad⟩ r T (cs.setIfInBounds off (strV l))) := by
  obtain ⟨A, cap, hb, hbc, -, hs⟩ := h
  have HS := Lib.hid (hs (by intro h; cases h))
  obtain ⟨A', cap', e, h1, h2, h3⟩ := HS.out
  injection e with e1 e2 e3
  subst e1; subst e3
  clear e2 h3 hs
  have c0 := hb.is 0 rfl
  have c1 := hb.is 1 rfl
  have HB := Lib.hid hb
  have HR := Lib.hid hr
  clear hb hr
  go_enter Tryz.func183, Tryz.ntmps183
  go_wp2_with fail
  refine (take_ok w c 2 n A l.length cap bad HB.out h1 h2 l.length (Nat.le_refl _)).mono ?_
  rintro e w2 ⟨rfl, hw2⟩
  have HB2 := Lib.hid (HB.out.put 1 (.slice (cutA A cap l.length 1) (l.length - l.length) (cap - l.length)))
  have HR2 := Lib.hid (HR.out.far (p := ⟨c, 1, none⟩) (fun e => hcr e.symm) (.slice (cutA A cap l.length 1) (l.length - l.length) (cap - l.length)))
  have HW2 := Lib.hid ((Below.refl base w).setCell (p := ⟨c, 1, none⟩) hbc (.slice (cutA A cap l.length 1) (l.length - l.length) (cap - l.length)))
  rw [← hw2] at HB2 HR2 HW2
  clear hw2 c0 c1 HB HR
  have hconv := Sl.str (HS.out.below HW2.out)
  have HCut := Lib.hid (HS.out.cut by_enc (Nat.le_refl _))
  rw [List.drop_length] at HCut
  have d1 := HR2.out.is off hx
  have g1 := HR2.out.frozen off
  go_wp2_with fail
  refine bodyPost_ret (results_none rfl _ _ _) rfl ?_
  have HW3 := HW2.out.setCell (p := ⟨r, off, none⟩) hbr (strV l)
  exact ⟨rfl, Cod.read (HB2.out.far (p := ⟨r, off, none⟩) hcr _) (by simp) hbc (HCut.out.below HW3), HR2.out.put off _, HW3⟩

set_option maxRecDepth 100000 in
set_option maxHeartbeats 1000000 in
theorem text_counts (w : World) (base c : Nat) (l : List UInt8) (n : Int) (bad : Bool) (h : Cod w base c ⟨1, l, n, bad⟩) (r off : Nat) (T : TypeId) (cs : Array Value) (hr : Blk w r T cs) :
    Calls Tryz.prog 183 #[.pointer (some ⟨c, 0, none⟩), .pointer (some ⟨r, off, none⟩)] w
      (NumPost w base c ⟨1, l, n, bad⟩ r T cs) := by
  have HC := Lib.hid h
  obtain ⟨A, cap, hb, hbc, -, hs⟩ := h
  have c0 := hb.is 0 rfl
  have HR := Lib.hid hr
  clear hb hr hs
  go_enter Tryz.func183, Tryz.ntmps183
  go_wp2_with fail
  refine bodyPost_ret (results_none rfl _ _ _) rfl ?_
  exact ⟨rfl, HC.out, HR.out, Below.refl _ _⟩
end Go.Proofs.YtldjgpnbkbmgoaaGreatDoor
