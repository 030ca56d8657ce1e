/-
  The codec's steps: take, number, long, text, in the three modes. Conditions: as each states.
-/
import Derived.Test.YtldjgpnbkbmgoaaGreatDoorNum
import Derived.Deep.RegionLaw
import Derived.Deep.AppendLies
namespace Go.Proofs.YtldjgpnbkbmgoaaGreatDoor
open Go.RowKit

/-- Elements of another slice are appended: at the list of a plain region's operations. -/
theorem app_sl {α : Type} {enc : α → List Value} {k : Nat} {e : TypeId} {w : World} {base : Nat} {v : Value} {l : List α} {P : Program} {t : TypeId} {bytes : Nat} {ops : Array Oper} {rest : List Oper} {o : Oper} {a : Act} {Q : Exit → Act → World → Prop} (E : ElemOk P t e k bytes) (C : EncOk enc k) (hgd : o.guard = none) (s x : Operand)
    (ho : o.op = .call { callee := .builtin .append, args := #[s, x], argTypes := #[t, t] }) (hs : a.eval s = v) (hown : Own enc k e w base v l)
    (u : Value) (hx : a.eval x = u) (ys : List α) (B : Nat) (hu : Sl enc w B u ys) (h0 : 0 < ys.length) (h63 : l.length + ys.length ≤ maxLen) (hbytes : (l.length + ys.length) * bytes ≤ 140737488355328) (hbase : base ≤ w.heap.size)
    (h : ∀ g' cap w', Own enc k e w' base (.slice (some ⟨g', 0, none⟩) (l ++ ys).length cap) (l ++ ys) → w.grownBy w' v.ownBlock → (v.ownBlock = some g' ∨ g' = w.heap.size) → g' < w'.heap.size →
      wpList P ops Q rest (a.put o.dst (.slice (some ⟨g', 0, none⟩) (l ++ ys).length cap)) w') : wpList P ops Q (o :: rest) a w := by
  obtain ⟨i, z, hi, hz, hsz, hby, hzs⟩ := E.inf
  obtain ⟨A, cap0, rfl, hu1, hu2, hu3⟩ := hu
  obtain ⟨b, off, rfl, hb, hlay⟩ := hu3 h0
  refine wpList_append_lies w hgd s x t ho base e i z k bytes E.und hi hz hsz hby hzs E.pos v l.length _ hs hown ⟨b, off, none⟩ ys.length cap0 (ys.flatMap enc) hx (flat_length C.len ys) (fun j u hu => ?_) (C.flat ys) h0 h63 hbytes hbase _ rfl (fun g' cap w' h1 h2 h3 h4 => ?_)
  · have := hlay j u hu
    have hadd : (⟨b, off, none⟩ : Addr).add j = ⟨b, off + j, none⟩ := by unfold Addr.add; split <;> simp_all
    rwa [hadd]
  · rw [← List.length_append]
    refine h g' cap w' ?_ h2 h3 h4
    unfold Own
    rw [List.flatMap_append, List.length_append]
    exact h1

structure CS where
  m : Int
  l : List UInt8
  n : Int
  bad : Bool

@[go_sem high] theorem cutBy (w : World) (A : Option Addr) (n c j : Nat) (k : IntKind) (hj : j ≤ n) : (Instr.slice 52 (.slice A n c) (some (.int k (j : Int))) none none).run Tryz.prog w = .ok (.slice (cutA A c j 1) (n - j) (c - j)) w :=
  run_slice_lo Tryz.underlying52 Tryz.sizeOf5 w A n c j k hj
@[go_sem high] theorem preBy (w : World) (A : Option Addr) (n c j : Nat) (k : IntKind) (hj : j ≤ c) : (Instr.slice 52 (.slice A n c) none (some (.int k (j : Int))) none).run Tryz.prog w = .ok (.slice A j c) w :=
  run_slice_hi Tryz.underlying52 Tryz.sizeOf5 w A n c j k hj

/-- A codec's cells. -/
abbrev codA (m n : Int) (A : Option Addr) (k cap : Nat) (bad : Bool) : Array Value := #[.int .i64 m, .slice A k cap, .int .i64 n, .bool bad]
def Cod (w : World) (base c : Nat) (s : CS) : Prop :=
  ∃ A cap, Blk w c 164 (codA s.m s.n A s.l.length cap s.bad) ∧ base ≤ c ∧ (s.m = 0 → Own byC 1 5 w base (.slice A s.l.length cap) s.l) ∧ (s.m ≠ 0 → Sl byC w base (.slice A s.l.length cap) s.l)

theorem Cod.read {w : World} {base c : Nat} {m n : Int} {A : Option Addr} {len cap : Nat} {bad : Bool} {l : List UInt8} (h : Blk w c 164 (codA m n A len cap bad)) (hl : l.length = len) (hb : base ≤ c) (hs : Sl byC w base (.slice A len cap) l) (hm : m ≠ 0 := by decide) : Cod w base c ⟨m, l, n, bad⟩ := by
  subst hl
  exact ⟨A, cap, h, hb, fun e => absurd e hm, fun _ => hs⟩

set_option maxRecDepth 100000 in
set_option maxHeartbeats 1000000 in
theorem take_ok (w : World) (c : Nat) (m n : Int) (A : Option Addr) (len cap : Nat) (bad : Bool) (h : Blk w c 164 (codA m n A len cap bad)) (hl : len ≤ cap) (_hc : cap ≤ maxLen) (k : Nat) (hk : k ≤ len) :
    Calls Tryz.prog 182 #[.pointer (some ⟨c, 0, none⟩), .int .i64 k] w fun e w' => e = .returned (.slice A k cap) ∧ w' = w.setCell ⟨c, 1, none⟩ (.slice (cutA A cap k 1) (len - k) (cap - k)) := by
  have c1 := h.is 1 rfl
  have f1 := h.frozen 1
  have hi : imin k len = (k : Int) := by rw [imin_eq]; omega
  unfold maxLen at _hc
  have hkc : k ≤ cap := by omega
  clear h
  go_enter Tryz.func182, Tryz.ntmps182
  go_wp2
  go_ret
  exact ⟨rfl, rfl⟩

def NumPost (w : World) (base c : Nat) (s : CS) (r : Nat) (T : TypeId) (cs : Array Value) (e : Ending) (w' : World) : Prop :=
  e = .returned (.tuple #[]) ∧ Cod w' base c s ∧ Blk w' r T cs ∧ Below base w w'

set_option maxRecDepth 100000 in
set_option maxHeartbeats 1000000 in
theorem number_reads (w : World) (base c : Nat) (l : List UInt8) (n : Int) (bad : Bool) (h : Cod w base c ⟨2, l, n, bad⟩) (r off : Nat) (T : TypeId) (cs : Array Value) (x : Int) (hr : Blk w r T cs) (hx : cs[off]? = some (.int .i64 x)) (hcr : c ≠ r) (hbr : base ≤ r)
    (k : Nat) (hk1 : 1 ≤ k) (hk2 : k ≤ 4) (hkl : k ≤ l.length) (most : Int) (hn0 : 0 ≤ n) (hn1 : n ≤ 1000) :
    Calls Tryz.prog 140 #[.pointer (some ⟨c, 0, none⟩), .pointer (some ⟨r, off, none⟩), .int .i64 k, .int .i64 most] w
      (NumPost w base c ⟨2, l.drop k, n + k, bad || decide (most < (beNat (l.take k) : Nat))⟩ r T (cs.setIfInBounds off (.int .i64 (beNat (l.take k) : Nat)))) := by
  obtain ⟨A, cap, hb, hbc, -, hs⟩ := h
  have hs := hs (by intro h; cases h)
  have hsl := hs
  obtain ⟨A', cap', e, h1, h2, h3⟩ := hsl
  injection e with e1 e2 e3
  subst e1; subst e3
  clear e2
  have hv : beNat (l.take k) < 4294967296 := by
    have := beNat_lt k (l.take k) (by simp; omega)
    exact Nat.lt_of_lt_of_le this (Nat.le_trans (Nat.pow_le_pow_right (by omega) hk2) (by decide))
  have hgo : (cs.setIfInBounds off (.int .i64 (beNat (l.take k) : Nat)))[off]? = some (.int .i64 (beNat (l.take k) : Nat)) := by
    have := (Array.getElem?_eq_some_iff.1 hx).1
    simp [this]
  have c2 := hb.is 2 rfl
  have f2 := hb.frozen 2
  have c0 := (hb.put 2 (.int .i64 (n + k))).is 0 rfl
  have HB := Lib.hid (hb.put 2 (.int .i64 (n + k)))
  have HR := Lib.hid (hr.far (p := ⟨c, 2, none⟩) (fun e => hcr e.symm) (.int .i64 (n + k)))
  have HW := Lib.hid ((Below.refl base w).setCell (p := ⟨c, 2, none⟩) hbc (.int .i64 (n + k)))
  have HG := Lib.hid hgo
  have HS := Lib.hid hs
  clear hb hr hgo hs h3
  go_enter Tryz.func140, Tryz.ntmps140
  go_wp2_with fail
  generalize w.setCell ⟨c, 2, none⟩ (.int .i64 (n + k)) = w1 at *
  refine (take_ok w1 c 2 (n + k) A l.length cap bad HB.out h1 h2 k hkl).mono ?_
  rintro e w2 ⟨rfl, hw2⟩
  have HB2 := Lib.hid (HB.out.put 1 (.slice (cutA A cap k 1) (l.length - k) (cap - k)))
  have HR2 := Lib.hid (HR.out.far (p := ⟨c, 1, none⟩) (fun e => hcr e.symm) (.slice (cutA A cap k 1) (l.length - k) (cap - k)))
  have HW2 := Lib.hid (HW.out.setCell (p := ⟨c, 1, none⟩) hbc (.slice (cutA A cap k 1) (l.length - k) (cap - k)))
  rw [← hw2] at HB2 HR2 HW2
  clear hw2 c0 c2 f2 HB HR HW
  have HSb := Lib.hid ((HS.out.below HW2.out))
  go_wp2_with fail
  refine (get_ok (l.take k) _ w2 base (HSb.out.pre by_enc hkl) (by simp; omega) (by simp; omega)).mono ?_
  rintro e w' ⟨rfl, hw'⟩
  rw [hw']
  clear hw' w'
  obtain ⟨v, hvv⟩ : ∃ v, v = beNat (l.take k) := ⟨_, rfl⟩
  have HV := Lib.hid hvv
  rw [← hvv] at hv HG ⊢
  clear hvv
  have hval : (IntKind.i64.wrap (v : Int)) = (v : Int) := by
    rw [IntKind.wrap_i64]; omega
  have HB3 := Lib.hid (HB2.out.far (p := ⟨r, off, none⟩) hcr (.int .i64 v))
  have HR3 := Lib.hid (HR2.out.put off (.int .i64 v))
  have HW3 := Lib.hid (HW2.out.setCell (p := ⟨r, off, none⟩) hbr (.int .i64 v))
  have d1 := HR2.out.is off hx
  have g1 := HR2.out.frozen off
  obtain ⟨w3, hst⟩ : ∃ w3, w2.setCell ⟨r, off, none⟩ (.int .i64 v) = w3 := ⟨_, rfl⟩
  rw [hst] at HB3 HR3 HW3
  have c3 := HB3.out.is 3 rfl
  have f3 := HB3.out.frozen 3
  have c4 := HR3.out.is off HG.out
  have f4 := HR3.out.frozen off
  go_wp2_with fail
  all_goals refine bodyPost_ret (results_none rfl _ _ _) rfl ?_
  all_goals (
    have HB4 := HB3.out.put 3 (.bool (bad || decide (most < (v : Int))))
    have HR4 := HR3.out.far (p := ⟨c, 3, none⟩) (fun e => hcr e.symm) (.bool (bad || decide (most < (v : Int))))
    have HW4 := HW3.out.setCell (p := ⟨c, 3, none⟩) hbc (.bool (bad || decide (most < (v : Int))))
    have e3 := HV.out)
  · rename_i hb
    rw [hb] at HB4 HR4 HW4 ⊢
    simp only [Bool.true_or] at HB4 HR4 HW4 ⊢
    rw [← e3]
    exact ⟨rfl, Cod.read HB4 (by simp) hbc ((HS.out.cut by_enc hkl).below HW4), HR4, HW4⟩
  · rename_i hb
    rw [Bool.not_eq_true] at hb
    rw [hb] at HB4 HR4 HW4 ⊢
    simp only [Bool.false_or] at HB4 HR4 HW4 ⊢
    rw [← e3]
    exact ⟨rfl, Cod.read HB4 (by simp) hbc ((HS.out.cut by_enc hkl).below HW4), HR4, HW4⟩

set_option maxRecDepth 100000 in
set_option maxHeartbeats 1000000 in
/-- A number that may not be written. -/
theorem number_bad (w : World) (base c : Nat) (l : List UInt8) (n : Int) (bad : Bool) (h : Cod w base c ⟨0, l, n, bad⟩) (r off : Nat) (T : TypeId) (cs : Array Value) (x : Int) (hr : Blk w r T cs) (hx : cs[off]? = some (.int .i64 x)) (hcr : c ≠ r)
    (k : Nat) (most : Int) (hn0 : 0 ≤ n) (hn1 : n ≤ 1000) (hk : k ≤ 8) (_hT : 5 ≠ T) (hm : x < 0 ∨ most < x) :
    Calls Tryz.prog 140 #[.pointer (some ⟨c, 0, none⟩), .pointer (some ⟨r, off, none⟩), .int .i64 k, .int .i64 most] w
      (NumPost w base c ⟨0, l, n + k, true⟩ r T cs) := by
  obtain ⟨A, cap, hb, hbc, ho, -⟩ := h
  have HO := Lib.hid (ho rfl)
  clear ho
  have c2 := hb.is 2 rfl
  have f2 := hb.frozen 2
  have HB := Lib.hid (hb.put 2 (.int .i64 (n + k)))
  have HR := Lib.hid (hr.far (p := ⟨c, 2, none⟩) (fun e => hcr e.symm) (.int .i64 (n + k)))
  have HW := Lib.hid ((Below.refl base w).setCell (p := ⟨c, 2, none⟩) hbc (.int .i64 (n + k)))
  have HO1 := Lib.hid (HO.out.set (p := ⟨c, 2, none⟩) (.int .i64 (n + k)) (HO.out.ne_blk hb (by decide)))
  obtain ⟨w1, hst⟩ : ∃ w1, w.setCell ⟨c, 2, none⟩ (.int .i64 (n + k)) = w1 := ⟨_, rfl⟩
  rw [hst] at HB HR HW HO1
  have c0 := HB.out.is 0 rfl
  have f0 := HB.out.frozen 0
  have c3 := HB.out.is 3 rfl
  have f3 := HB.out.frozen 3
  have d1 := HR.out.is off hx
  have g1 := HR.out.frozen off
  clear hb hr HO
  rcases Int.lt_or_le x 0 with hx0 | hx0
  · go_enter Tryz.func140, Tryz.ntmps140
    go_wp2_with fail
    refine bodyPost_ret (results_none rfl _ _ _) rfl ?_
    exact ⟨rfl, ⟨A, cap, HB.out.put 3 _, hbc, fun _ => HO1.out.set _ (HO1.out.ne_blk HB.out (by decide)), fun e => (nomatch e)⟩, HR.out.far (fun e => hcr e.symm) _, HW.out.setCell hbc _⟩
  · have hm' : most < x := by omega
    go_enter Tryz.func140, Tryz.ntmps140
    go_wp2_with fail
    refine bodyPost_ret (results_none rfl _ _ _) rfl ?_
    exact ⟨rfl, ⟨A, cap, HB.out.put 3 _, hbc, fun _ => HO1.out.set _ (HO1.out.ne_blk HB.out (by decide)), fun e => (nomatch e)⟩, HR.out.far (fun e => hcr e.symm) _, HW.out.setCell hbc _⟩

set_option maxRecDepth 100000 in
set_option maxHeartbeats 1000000 in
/-- A number that is written. -/
theorem number_fine (w : World) (base c : Nat) (l : List UInt8) (n : Int) (bad : Bool) (h : Cod w base c ⟨0, l, n, bad⟩) (r off : Nat) (T : TypeId) (cs : Array Value) (x : Nat) (hr : Blk w r T cs) (hx : cs[off]? = some (.int .i64 x)) (hcr : c ≠ r)
    (k : Nat) (most : Int) (hn0 : 0 ≤ n) (hn1 : n ≤ 1000) (hk1 : 1 ≤ k) (hk : k ≤ 8) (hT : 5 ≠ T) (hm : (x : Int) ≤ most) (hmk : most < (256 ^ k : Nat)) (hm4 : most < 4294967296) (hl : l.length ≤ 100000) :
    Calls Tryz.prog 140 #[.pointer (some ⟨c, 0, none⟩), .pointer (some ⟨r, off, none⟩), .int .i64 k, .int .i64 most] w
      (NumPost w base c ⟨0, l ++ toBE k x, n + k, bad⟩ r T cs) := by
  obtain ⟨A, cap, hb, hbc, ho, -⟩ := h
  have HO := Lib.hid (ho rfl)
  clear ho
  have c2 := hb.is 2 rfl
  have f2 := hb.frozen 2
  have HB := Lib.hid (hb.put 2 (.int .i64 (n + k)))
  have HR := Lib.hid (hr.far (p := ⟨c, 2, none⟩) (fun e => hcr e.symm) (.int .i64 (n + k)))
  have HW := Lib.hid ((Below.refl base w).setCell (p := ⟨c, 2, none⟩) hbc (.int .i64 (n + k)))
  have HO1 := Lib.hid (HO.out.set (p := ⟨c, 2, none⟩) (.int .i64 (n + k)) (HO.out.ne_blk hb (by decide)))
  obtain ⟨w1, hst⟩ : ∃ w1, w.setCell ⟨c, 2, none⟩ (.int .i64 (n + k)) = w1 := ⟨_, rfl⟩
  rw [hst] at HB HR HW HO1
  have c0 := HB.out.is 0 rfl
  have f0 := HB.out.frozen 0
  have d1 := HR.out.is off hx
  have g1 := HR.out.frozen off
  have HM := Lib.hid hmk
  have hxk : x < 256 ^ k := by exact_mod_cast Int.lt_of_le_of_lt hm hmk
  have HX := Lib.hid hxk
  have hwx : IntKind.u64.wrap (x : Int) = (x : Int) := by rw [IntKind.wrap_u64]; omega
  have hx0 : ¬ (x : Int) < 0 := by omega
  have hxm : ¬ most < (x : Int) := by omega
  clear hb hr HO hmk hxk
  go_enter Tryz.func140, Tryz.ntmps140
  go_wp2_with fail
  refine (put_ok x k w1 hk1 hk (by omega) HX.out).mono ?_
  rintro e w2 ⟨v, rfl, hv, hw2⟩
  have HS := Lib.hid hv.sl
  have HB2 := Lib.hid (HB.out.below hw2 HB.out.lt)
  have HR2 := Lib.hid (HR.out.below hw2 HR.out.lt)
  have HO2 := Lib.hid (HO1.out.keep fun b hb => hw2.block b (HO1.out.lt b hb).2)
  have hsz : base ≤ w2.heap.size := Nat.le_of_lt (Nat.lt_of_le_of_lt hbc HB2.out.lt)
  have HW2 := Lib.hid (HW.out.trans (hw2.mono (Nat.le_of_lt (Nat.lt_of_le_of_lt hbc HB.out.lt))))
  have c1 := HB2.out.is 1 rfl
  have f1 := HB2.out.frozen 1
  have hne1 := HO2.out.ne_blk HB2.out (by decide)
  have hne2 := HO2.out.ne_blk HR2.out hT
  clear hv hw2
  go_wp2_with (at_builtin; (refine app_sl by_elem by_enc rfl (.tmp 53) (.tmp 54) rfl rfl HO2.out v rfl (toBE k x) _ HS.out (by rw [toBE_len]; exact hk1) (by rw [toBE_len]; unfold maxLen; omega) (by rw [toBE_len]; omega) hsz ?_; intro g' cap' w3 hown3 hgrow hat hlt3; have HB3 := Lib.hid (HB2.out.grown hgrow (fun e => hne1 e.symm)); have HR3 := Lib.hid (HR2.out.grown hgrow (fun e => hne2 e.symm)); have b1 := HB3.out.is 1 rfl; have b0 := HB3.out.frozen 1; have HO3 := Lib.hid hown3; have HW3 := Lib.hid (HW2.out.grown hgrow hsz (fun g hg => (HO2.out.lt g hg).1)); clear hown3 hgrow hat))
  refine bodyPost_ret (results_none rfl _ _ _) rfl ?_
  rw [← List.length_append]
  exact ⟨rfl, ⟨_, _, HB3.out.put 1 _, hbc, fun _ => HO3.out.set _ (HO3.out.ne_blk HB3.out (by decide)), fun e => absurd rfl e⟩, HR3.out.far (fun e => hcr e.symm) _, HW3.out.setCell hbc _⟩

set_option maxRecDepth 100000 in
set_option maxHeartbeats 1000000 in
/-- A number that is counted. -/
theorem number_counts (w : World) (base c : Nat) (l : List UInt8) (n : Int) (bad : Bool) (h : Cod w base c ⟨1, l, n, bad⟩) (r off : Nat) (T : TypeId) (cs : Array Value) (hr : Blk w r T cs) (hcr : c ≠ r)
    (k : Nat) (most : Int) (hn0 : 0 ≤ n) (hn1 : n ≤ 1000) (hk : k ≤ 8) :
    Calls Tryz.prog 140 #[.pointer (some ⟨c, 0, none⟩), .pointer (some ⟨r, off, none⟩), .int .i64 k, .int .i64 most] w
      (NumPost w base c ⟨1, l, n + k, bad⟩ r T cs) := by
  obtain ⟨A, cap, hb, hbc, -, hs⟩ := h
  have HS := Lib.hid (hs (by intro h; cases h))
  clear hs
  have c2 := hb.is 2 rfl
  have f2 := hb.frozen 2
  have HB := Lib.hid (hb.put 2 (.int .i64 (n + k)))
  have HR := Lib.hid (hr.far (p := ⟨c, 2, none⟩) (fun e => hcr e.symm) (.int .i64 (n + k)))
  have HW := Lib.hid ((Below.refl base w).setCell (p := ⟨c, 2, none⟩) hbc (.int .i64 (n + k)))
  obtain ⟨w1, hst⟩ : ∃ w1, w.setCell ⟨c, 2, none⟩ (.int .i64 (n + k)) = w1 := ⟨_, rfl⟩
  rw [hst] at HB HR HW
  have c0 := HB.out.is 0 rfl
  have f0 := HB.out.frozen 0
  clear hb hr
  go_enter Tryz.func140, Tryz.ntmps140
  go_wp2_with fail
  refine bodyPost_ret (results_none rfl _ _ _) rfl ?_
  exact ⟨rfl, Cod.read HB.out rfl hbc (HS.out.below HW.out), HR.out, HW.out⟩
end Go.Proofs.YtldjgpnbkbmgoaaGreatDoor
