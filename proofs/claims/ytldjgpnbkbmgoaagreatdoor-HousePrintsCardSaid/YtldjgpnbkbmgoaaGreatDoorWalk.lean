/-
  The codec's walks over a request's fields. Conditions: as each states.
  PRINTED BY genwalk.py.
-/
import Derived.Test.YtldjgpnbkbmgoaaGreatDoorReq
namespace Go.Proofs.YtldjgpnbkbmgoaaGreatDoor
open Go.RowKit Go.Lib

def boxS (p : CS × Req) : CS × Req := nS LY1 2 65535 (nS LX1 2 65535 (nS LY0 2 65535 (nS LX0 2 65535 (p))))
def pointS (p : CS × Req) : CS × Req := nS LAy 2 65535 (nS LAx 2 65535 (p))
theorem fit_box {b j : Nat} {p : CS × Req} (h : Fit p.1 b) (e : 8 + j = b) : Fit (boxS p).1 j := by
  subst e
  exact fit_n (j := j) (fit_n (j := 2 + j) (fit_n (j := 4 + j) (fit_n (j := 6 + j) h (by omega)) (by omega)) (by omega)) (by omega)
theorem fit_point {b j : Nat} {p : CS × Req} (h : Fit p.1 b) (e : 4 + j = b) : Fit (pointS p).1 j := by
  subst e
  exact fit_n (j := j) (fit_n (j := 2 + j) h (by omega)) (by omega)

set_option maxRecDepth 100000 in
set_option maxHeartbeats 2000000 in
theorem box_ok (w : World) (base c r : Nat) (p : CS × Req) (hC : Cod w base c p.1) (hR : Rq w r p.2) (hcr : c ≠ r) (hbr : base ≤ r) (b : Nat) (hf : Fit p.1 b) (hb : 8 ≤ b) :
    Calls Tryz.prog 184 #[.pointer (some ⟨c, 0, none⟩), .pointer (some ⟨r, 12, none⟩)] w (RPost w base c r (boxS p)) := by
  have HC := Lib.hid hC
  have HR := Lib.hid hR
  have HW := Lib.hid (Below.refl base w)
  clear hC hR
  have hf := Lib.hid (hf.less hb)
  go_enter Tryz.func184, Tryz.ntmps184
  go_wp2_with fail
  refine (number_ok LX0 _ base c r (p) HC.out HR.out hcr hbr 2 8 65535 hf.out (by decide) (by decide) (by decide) (by decide) (by decide)).mono ?_
  rintro e w1 ⟨rfl, hC, hR, hW⟩
  have HW := Lib.hid (HW.out.trans hW)
  have HC := Lib.hid hC
  have HR := Lib.hid hR
  clear hC hR hW
  have hf := Lib.hid (show Fit (nS LX0 2 65535 (p)).1 6 from fit_n (b := 8) (j := 6) hf.out rfl)
  go_wp2_with fail
  refine (number_ok LY0 _ base c r (nS LX0 2 65535 (p)) HC.out HR.out hcr hbr 2 6 65535 hf.out (by decide) (by decide) (by decide) (by decide) (by decide)).mono ?_
  rintro e w2 ⟨rfl, hC, hR, hW⟩
  have HW := Lib.hid (HW.out.trans hW)
  have HC := Lib.hid hC
  have HR := Lib.hid hR
  clear hC hR hW
  have hf := Lib.hid (show Fit (nS LY0 2 65535 (nS LX0 2 65535 (p))).1 4 from fit_n (b := 6) (j := 4) hf.out rfl)
  go_wp2_with fail
  refine (number_ok LX1 _ base c r (nS LY0 2 65535 (nS LX0 2 65535 (p))) HC.out HR.out hcr hbr 2 4 65535 hf.out (by decide) (by decide) (by decide) (by decide) (by decide)).mono ?_
  rintro e w3 ⟨rfl, hC, hR, hW⟩
  have HW := Lib.hid (HW.out.trans hW)
  have HC := Lib.hid hC
  have HR := Lib.hid hR
  clear hC hR hW
  have hf := Lib.hid (show Fit (nS LX1 2 65535 (nS LY0 2 65535 (nS LX0 2 65535 (p)))).1 2 from fit_n (b := 4) (j := 2) hf.out rfl)
  go_wp2_with fail
  refine (number_ok LY1 _ base c r (nS LX1 2 65535 (nS LY0 2 65535 (nS LX0 2 65535 (p)))) HC.out HR.out hcr hbr 2 2 65535 hf.out (by decide) (by decide) (by decide) (by decide) (by decide)).mono ?_
  rintro e w4 ⟨rfl, hC, hR, hW⟩
  have HW := Lib.hid (HW.out.trans hW)
  have HC := Lib.hid hC
  have HR := Lib.hid hR
  clear hC hR hW
  have hf := Lib.hid (show Fit (nS LY1 2 65535 (nS LX1 2 65535 (nS LY0 2 65535 (nS LX0 2 65535 (p))))).1 0 from fit_n (b := 2) (j := 0) hf.out rfl)
  go_wp2_with fail
  refine bodyPost_ret (results_none rfl _ _ _) rfl ?_
  exact ⟨rfl, HC.out, HR.out, HW.out⟩

set_option maxRecDepth 100000 in
set_option maxHeartbeats 2000000 in
theorem point_ok (w : World) (base c r : Nat) (p : CS × Req) (hC : Cod w base c p.1) (hR : Rq w r p.2) (hcr : c ≠ r) (hbr : base ≤ r) (b : Nat) (hf : Fit p.1 b) (hb : 4 ≤ b) :
    Calls Tryz.prog 185 #[.pointer (some ⟨c, 0, none⟩), .pointer (some ⟨r, 20, none⟩)] w (RPost w base c r (pointS p)) := by
  have HC := Lib.hid hC
  have HR := Lib.hid hR
  have HW := Lib.hid (Below.refl base w)
  clear hC hR
  have hf := Lib.hid (hf.less hb)
  go_enter Tryz.func185, Tryz.ntmps185
  go_wp2_with fail
  refine (number_ok LAx _ base c r (p) HC.out HR.out hcr hbr 2 4 65535 hf.out (by decide) (by decide) (by decide) (by decide) (by decide)).mono ?_
  rintro e w1 ⟨rfl, hC, hR, hW⟩
  have HW := Lib.hid (HW.out.trans hW)
  have HC := Lib.hid hC
  have HR := Lib.hid hR
  clear hC hR hW
  have hf := Lib.hid (show Fit (nS LAx 2 65535 (p)).1 2 from fit_n (b := 4) (j := 2) hf.out rfl)
  go_wp2_with fail
  refine (number_ok LAy _ base c r (nS LAx 2 65535 (p)) HC.out HR.out hcr hbr 2 2 65535 hf.out (by decide) (by decide) (by decide) (by decide) (by decide)).mono ?_
  rintro e w2 ⟨rfl, hC, hR, hW⟩
  have HW := Lib.hid (HW.out.trans hW)
  have HC := Lib.hid hC
  have HR := Lib.hid hR
  clear hC hR hW
  have hf := Lib.hid (show Fit (nS LAy 2 65535 (nS LAx 2 65535 (p))).1 0 from fit_n (b := 2) (j := 0) hf.out rfl)
  go_wp2_with fail
  refine bodyPost_ret (results_none rfl _ _ _) rfl ?_
  exact ⟨rfl, HC.out, HR.out, HW.out⟩

def aheadS (p : CS × Req) : CS × Req := nS LM 1 64 (lS LSecret (nS LUser 2 65535 (nS LTenant 1 255 (nS LOp 1 255 (p)))))

theorem nS_md {off : Nat} {L : Lens off} {k : Nat} {most : Int} {p : CS × Req} : (nS L k most p).1.m = p.1.m := by
  obtain ⟨⟨m, l, n, bad⟩, q⟩ := p
  unfold nS
  simp only
  split
  · rename_i h
    subst h
    split <;> rfl
  · split
    · rename_i h
      exact h.symm
    · rfl
theorem nS_wr {off : Nat} {L : Lens off} {k : Nat} {most : Int} {p : CS × Req} (h : p.1.m = 0) : (nS L k most p).2 = p.2 := by
  unfold nS
  rw [if_pos h]
theorem lS_md {off : Nat} {L : LensU off} {p : CS × Req} : (lS L p).1.m = p.1.m := by
  obtain ⟨⟨m, l, n, bad⟩, q⟩ := p
  unfold lS
  simp only
  split
  · rename_i h
    exact h.symm
  · split
    · rename_i h
      exact h.symm
    · rfl
theorem lS_wr {off : Nat} {L : LensU off} {p : CS × Req} (h : p.1.m = 0) : (lS L p).2 = p.2 := by
  unfold lS
  rw [if_pos h]
/-- Numbers of eight bytes are so. -/
def Req.ok (q : Req) : Prop := q.secret < 256 ^ 8 ∧ q.other < 256 ^ 8 ∧ q.area < 256 ^ 8

set_option maxRecDepth 100000 in
set_option maxHeartbeats 2000000 in
theorem ahead_ok (w : World) (base c r : Nat) (p : CS × Req) (hC : Cod w base c p.1) (hR : Rq w r p.2) (hcr : c ≠ r) (hbr : base ≤ r) (b : Nat) (hf : Fit p.1 b) (hb : 13 ≤ b) (hu : p.1.m = 0 → p.2.ok) :
    Calls Tryz.prog 110 #[.pointer (some ⟨c, 0, none⟩), .pointer (some ⟨r, 0, none⟩)] w (RPost w base c r (aheadS p)) := by
  have HC := Lib.hid hC
  have HR := Lib.hid hR
  have HW := Lib.hid (Below.refl base w)
  clear hC hR
  have hf := Lib.hid (hf.less hb)
  go_enter Tryz.func110, Tryz.ntmps110
  go_wp2_with fail
  refine (number_ok LOp _ base c r (p) HC.out HR.out hcr hbr 1 13 255 hf.out (by decide) (by decide) (by decide) (by decide) (by decide)).mono ?_
  rintro e w1 ⟨rfl, hC, hR, hW⟩
  have HW := Lib.hid (HW.out.trans hW)
  have HC := Lib.hid hC
  have HR := Lib.hid hR
  clear hC hR hW
  have hf := Lib.hid (show Fit (nS LOp 1 255 (p)).1 12 from fit_n (b := 13) (j := 12) hf.out rfl)
  go_wp2_with fail
  refine (number_ok LTenant _ base c r (nS LOp 1 255 (p)) HC.out HR.out hcr hbr 1 12 255 hf.out (by decide) (by decide) (by decide) (by decide) (by decide)).mono ?_
  rintro e w2 ⟨rfl, hC, hR, hW⟩
  have HW := Lib.hid (HW.out.trans hW)
  have HC := Lib.hid hC
  have HR := Lib.hid hR
  clear hC hR hW
  have hf := Lib.hid (show Fit (nS LTenant 1 255 (nS LOp 1 255 (p))).1 11 from fit_n (b := 12) (j := 11) hf.out rfl)
  go_wp2_with fail
  refine (number_ok LUser _ base c r (nS LTenant 1 255 (nS LOp 1 255 (p))) HC.out HR.out hcr hbr 2 11 65535 hf.out (by decide) (by decide) (by decide) (by decide) (by decide)).mono ?_
  rintro e w3 ⟨rfl, hC, hR, hW⟩
  have HW := Lib.hid (HW.out.trans hW)
  have HC := Lib.hid hC
  have HR := Lib.hid hR
  clear hC hR hW
  have hf := Lib.hid (show Fit (nS LUser 2 65535 (nS LTenant 1 255 (nS LOp 1 255 (p)))).1 9 from fit_n (b := 11) (j := 9) hf.out rfl)
  go_wp2_with fail
  refine (long_ok LSecret _ base c r (nS LUser 2 65535 (nS LTenant 1 255 (nS LOp 1 255 (p)))) HC.out HR.out hcr hbr 9 hf.out (by decide) (fun e => by rw [nS_md, nS_md, nS_md] at e; rw [nS_wr (by rw [nS_md, nS_md]; exact e), nS_wr (by rw [nS_md]; exact e), nS_wr e]; exact (hu e).1)).mono ?_
  rintro e w4 ⟨rfl, hC, hR, hW⟩
  have HW := Lib.hid (HW.out.trans hW)
  have HC := Lib.hid hC
  have HR := Lib.hid hR
  clear hC hR hW
  have hf := Lib.hid (show Fit (lS LSecret (nS LUser 2 65535 (nS LTenant 1 255 (nS LOp 1 255 (p))))).1 1 from fit_l (b := 9) (j := 1) hf.out rfl)
  go_wp2_with fail
  refine (number_ok LM _ base c r (lS LSecret (nS LUser 2 65535 (nS LTenant 1 255 (nS LOp 1 255 (p))))) HC.out HR.out hcr hbr 1 1 64 hf.out (by decide) (by decide) (by decide) (by decide) (by decide)).mono ?_
  rintro e w5 ⟨rfl, hC, hR, hW⟩
  have HW := Lib.hid (HW.out.trans hW)
  have HC := Lib.hid hC
  have HR := Lib.hid hR
  clear hC hR hW
  have hf := Lib.hid (show Fit (nS LM 1 64 (lS LSecret (nS LUser 2 65535 (nS LTenant 1 255 (nS LOp 1 255 (p)))))).1 0 from fit_n (b := 1) (j := 0) hf.out rfl)
  go_wp2_with fail
  refine bodyPost_ret (results_none rfl _ _ _) rfl ?_
  exact ⟨rfl, HC.out, HR.out, HW.out⟩

def ruleS (p : CS × Req) : CS × Req :=
  if p.2.op = 1 then nS LQuota 2 65535 (nS LTier 1 7 (nS LRole 1 7 (nS LWhom 2 65535 (p)))) else
  if p.2.op = 2 then nS LWhom 2 65535 (p) else
  if p.2.op = 3 then tS (p) else
  if p.2.op = 4 then nS LTil 4 4294967295 (nS LRights 1 31 (nS LWhom 2 65535 (p))) else
  if p.2.op = 19 then nS LQuota 2 65535 (nS LWhom 2 65535 (p)) else
  p

def ruleN (op : Int) : Nat :=
  if op = 1 then 6 else
  if op = 2 then 2 else
  if op = 3 then 0 else
  if op = 4 then 7 else
  if op = 19 then 4 else
  0

set_option maxRecDepth 100000 in
set_option maxHeartbeats 2000000 in
theorem rule_ok (w : World) (base c r : Nat) (p : CS × Req) (hC : Cod w base c p.1) (hR : Rq w r p.2) (hcr : c ≠ r) (hbr : base ≤ r) (hf : Fit p.1 (ruleN p.2.op)) (_hu : p.1.m = 0 → p.2.ok) (ht : p.1.m = 0 → p.1.l.length + p.2.txt.length ≤ 140737488355328) :
    Calls Tryz.prog 142 #[.pointer (some ⟨c, 0, none⟩), .pointer (some ⟨r, 0, none⟩)] w (RPost w base c r (ruleS p)) := by
  have c0 : w.cell? ⟨r, 0, none⟩ = some (.int .i64 p.2.op) := Blk.is hR 0 rfl
  have HC := Lib.hid hC
  have HR := Lib.hid hR
  have HW := Lib.hid (Below.refl base w)
  clear hC hR
  by_cases h1 : p.2.op = 1
  · have hN : ruleN p.2.op = 6 := by simp [ruleN, h1]
    have hS : ruleS p = nS LQuota 2 65535 (nS LTier 1 7 (nS LRole 1 7 (nS LWhom 2 65535 (p)))) := by simp [ruleS, h1]
    
    rw [hN] at hf
    have hf := Lib.hid hf
    have HE := Lib.hid hS
    clear hN hS
    rw [HE.out]
    rw [h1] at c0
    go_enter Tryz.func142, Tryz.ntmps142
    go_wp2_with fail
    refine (number_ok LWhom _ base c r (p) HC.out HR.out hcr hbr 2 6 65535 hf.out (by decide) (by decide) (by decide) (by decide) (by decide)).mono ?_
    rintro e w1 ⟨rfl, hC, hR, hW⟩
    have HW := Lib.hid (HW.out.trans hW)
    have HC := Lib.hid hC
    have HR := Lib.hid hR
    clear hC hR hW
    have hf := Lib.hid (show Fit (nS LWhom 2 65535 (p)).1 4 from fit_n (b := 6) (j := 4) hf.out rfl)
    go_wp2_with fail
    refine (number_ok LRole _ base c r (nS LWhom 2 65535 (p)) HC.out HR.out hcr hbr 1 4 7 hf.out (by decide) (by decide) (by decide) (by decide) (by decide)).mono ?_
    rintro e w2 ⟨rfl, hC, hR, hW⟩
    have HW := Lib.hid (HW.out.trans hW)
    have HC := Lib.hid hC
    have HR := Lib.hid hR
    clear hC hR hW
    have hf := Lib.hid (show Fit (nS LRole 1 7 (nS LWhom 2 65535 (p))).1 3 from fit_n (b := 4) (j := 3) hf.out rfl)
    go_wp2_with fail
    refine (number_ok LTier _ base c r (nS LRole 1 7 (nS LWhom 2 65535 (p))) HC.out HR.out hcr hbr 1 3 7 hf.out (by decide) (by decide) (by decide) (by decide) (by decide)).mono ?_
    rintro e w3 ⟨rfl, hC, hR, hW⟩
    have HW := Lib.hid (HW.out.trans hW)
    have HC := Lib.hid hC
    have HR := Lib.hid hR
    clear hC hR hW
    have hf := Lib.hid (show Fit (nS LTier 1 7 (nS LRole 1 7 (nS LWhom 2 65535 (p)))).1 2 from fit_n (b := 3) (j := 2) hf.out rfl)
    go_wp2_with fail
    refine (number_ok LQuota _ base c r (nS LTier 1 7 (nS LRole 1 7 (nS LWhom 2 65535 (p)))) HC.out HR.out hcr hbr 2 2 65535 hf.out (by decide) (by decide) (by decide) (by decide) (by decide)).mono ?_
    rintro e w4 ⟨rfl, hC, hR, hW⟩
    have HW := Lib.hid (HW.out.trans hW)
    have HC := Lib.hid hC
    have HR := Lib.hid hR
    clear hC hR hW
    have hf := Lib.hid (show Fit (nS LQuota 2 65535 (nS LTier 1 7 (nS LRole 1 7 (nS LWhom 2 65535 (p))))).1 0 from fit_n (b := 2) (j := 0) hf.out rfl)
    go_wp2_with fail
    refine bodyPost_ret (results_none rfl _ _ _) rfl ?_
    exact ⟨rfl, HC.out, HR.out, HW.out⟩
  by_cases h2 : p.2.op = 2
  · have hN : ruleN p.2.op = 2 := by simp [ruleN, h2]
    have hS : ruleS p = nS LWhom 2 65535 (p) := by simp [ruleS, h2]
    
    rw [hN] at hf
    have hf := Lib.hid hf
    have HE := Lib.hid hS
    clear hN hS
    rw [HE.out]
    rw [h2] at c0
    go_enter Tryz.func142, Tryz.ntmps142
    go_wp2_with fail
    refine (number_ok LWhom _ base c r (p) HC.out HR.out hcr hbr 2 2 65535 hf.out (by decide) (by decide) (by decide) (by decide) (by decide)).mono ?_
    rintro e w1 ⟨rfl, hC, hR, hW⟩
    have HW := Lib.hid (HW.out.trans hW)
    have HC := Lib.hid hC
    have HR := Lib.hid hR
    clear hC hR hW
    have hf := Lib.hid (show Fit (nS LWhom 2 65535 (p)).1 0 from fit_n (b := 2) (j := 0) hf.out rfl)
    go_wp2_with fail
    refine bodyPost_ret (results_none rfl _ _ _) rfl ?_
    exact ⟨rfl, HC.out, HR.out, HW.out⟩
  by_cases h3 : p.2.op = 3
  · have hN : ruleN p.2.op = 0 := by simp [ruleN, h3]
    have hS : ruleS p = tS (p) := by simp [ruleS, h3]
    
    rw [hN] at hf
    have hf := Lib.hid hf
    have HE := Lib.hid hS
    clear hN hS
    rw [HE.out]
    rw [h3] at c0
    go_enter Tryz.func142, Tryz.ntmps142
    go_wp2_with fail
    refine (text_ok _ base c r (p) HC.out HR.out hcr hbr hf.out (ht)).mono ?_
    rintro e w1 ⟨rfl, hC, hR, hW⟩
    have HW := Lib.hid (HW.out.trans hW)
    have HC := Lib.hid hC
    have HR := Lib.hid hR
    clear hC hR hW
    go_wp2_with fail
    refine bodyPost_ret (results_none rfl _ _ _) rfl ?_
    exact ⟨rfl, HC.out, HR.out, HW.out⟩
  by_cases h4 : p.2.op = 4
  · have hN : ruleN p.2.op = 7 := by simp [ruleN, h4]
    have hS : ruleS p = nS LTil 4 4294967295 (nS LRights 1 31 (nS LWhom 2 65535 (p))) := by simp [ruleS, h4]
    
    rw [hN] at hf
    have hf := Lib.hid hf
    have HE := Lib.hid hS
    clear hN hS
    rw [HE.out]
    rw [h4] at c0
    go_enter Tryz.func142, Tryz.ntmps142
    go_wp2_with fail
    refine (number_ok LWhom _ base c r (p) HC.out HR.out hcr hbr 2 7 65535 hf.out (by decide) (by decide) (by decide) (by decide) (by decide)).mono ?_
    rintro e w1 ⟨rfl, hC, hR, hW⟩
    have HW := Lib.hid (HW.out.trans hW)
    have HC := Lib.hid hC
    have HR := Lib.hid hR
    clear hC hR hW
    have hf := Lib.hid (show Fit (nS LWhom 2 65535 (p)).1 5 from fit_n (b := 7) (j := 5) hf.out rfl)
    go_wp2_with fail
    refine (number_ok LRights _ base c r (nS LWhom 2 65535 (p)) HC.out HR.out hcr hbr 1 5 31 hf.out (by decide) (by decide) (by decide) (by decide) (by decide)).mono ?_
    rintro e w2 ⟨rfl, hC, hR, hW⟩
    have HW := Lib.hid (HW.out.trans hW)
    have HC := Lib.hid hC
    have HR := Lib.hid hR
    clear hC hR hW
    have hf := Lib.hid (show Fit (nS LRights 1 31 (nS LWhom 2 65535 (p))).1 4 from fit_n (b := 5) (j := 4) hf.out rfl)
    go_wp2_with fail
    refine (number_ok LTil _ base c r (nS LRights 1 31 (nS LWhom 2 65535 (p))) HC.out HR.out hcr hbr 4 4 4294967295 hf.out (by decide) (by decide) (by decide) (by decide) (by decide)).mono ?_
    rintro e w3 ⟨rfl, hC, hR, hW⟩
    have HW := Lib.hid (HW.out.trans hW)
    have HC := Lib.hid hC
    have HR := Lib.hid hR
    clear hC hR hW
    have hf := Lib.hid (show Fit (nS LTil 4 4294967295 (nS LRights 1 31 (nS LWhom 2 65535 (p)))).1 0 from fit_n (b := 4) (j := 0) hf.out rfl)
    go_wp2_with fail
    refine bodyPost_ret (results_none rfl _ _ _) rfl ?_
    exact ⟨rfl, HC.out, HR.out, HW.out⟩
  by_cases h19 : p.2.op = 19
  · have hN : ruleN p.2.op = 4 := by simp [ruleN, h19]
    have hS : ruleS p = nS LQuota 2 65535 (nS LWhom 2 65535 (p)) := by simp [ruleS, h19]
    
    rw [hN] at hf
    have hf := Lib.hid hf
    have HE := Lib.hid hS
    clear hN hS
    rw [HE.out]
    rw [h19] at c0
    go_enter Tryz.func142, Tryz.ntmps142
    go_wp2_with fail
    refine (number_ok LWhom _ base c r (p) HC.out HR.out hcr hbr 2 4 65535 hf.out (by decide) (by decide) (by decide) (by decide) (by decide)).mono ?_
    rintro e w1 ⟨rfl, hC, hR, hW⟩
    have HW := Lib.hid (HW.out.trans hW)
    have HC := Lib.hid hC
    have HR := Lib.hid hR
    clear hC hR hW
    have hf := Lib.hid (show Fit (nS LWhom 2 65535 (p)).1 2 from fit_n (b := 4) (j := 2) hf.out rfl)
    go_wp2_with fail
    refine (number_ok LQuota _ base c r (nS LWhom 2 65535 (p)) HC.out HR.out hcr hbr 2 2 65535 hf.out (by decide) (by decide) (by decide) (by decide) (by decide)).mono ?_
    rintro e w2 ⟨rfl, hC, hR, hW⟩
    have HW := Lib.hid (HW.out.trans hW)
    have HC := Lib.hid hC
    have HR := Lib.hid hR
    clear hC hR hW
    have hf := Lib.hid (show Fit (nS LQuota 2 65535 (nS LWhom 2 65535 (p))).1 0 from fit_n (b := 2) (j := 0) hf.out rfl)
    go_wp2_with fail
    refine bodyPost_ret (results_none rfl _ _ _) rfl ?_
    exact ⟨rfl, HC.out, HR.out, HW.out⟩
  · have hS : ruleS p = p := by simp [ruleS, h1, h2, h3, h4, h19]
    have HE := Lib.hid hS
    clear hS
    rw [HE.out]
    clear hf HE
    generalize p.2.op = o at *
    go_enter Tryz.func142, Tryz.ntmps142
    go_wp2_with fail
    refine bodyPost_ret (results_none rfl _ _ _) rfl ?_
    exact ⟨rfl, HC.out, HR.out, HW.out⟩

def ownS (p : CS × Req) : CS × Req :=
  if p.2.op = 5 then nS LTil 4 4294967295 (boxS (nS LZoom 1 16 (nS LRights 1 31 (p)))) else
  if p.2.op = 6 then lS LOther (p) else
  if p.2.op = 7 then lS LArea (nS LPk 2 65535 (p)) else
  if p.2.op = 8 then nS LLabel 1 7 (pointS (p)) else
  if p.2.op = 13 then boxS (p) else
  if p.2.op = 15 then boxS (p) else
  if p.2.op = 14 then pointS (p) else
  if p.2.op = 16 then pointS (p) else
  if p.2.op = 17 then nS LFrm 2 65535 (p) else
  p

def ownN (op : Int) : Nat :=
  if op = 5 then 14 else
  if op = 6 then 8 else
  if op = 7 then 10 else
  if op = 8 then 5 else
  if op = 13 then 8 else
  if op = 15 then 8 else
  if op = 14 then 4 else
  if op = 16 then 4 else
  if op = 17 then 2 else
  0

set_option maxRecDepth 100000 in
set_option maxHeartbeats 2000000 in
theorem own_ok (w : World) (base c r : Nat) (p : CS × Req) (hC : Cod w base c p.1) (hR : Rq w r p.2) (hcr : c ≠ r) (hbr : base ≤ r) (hf : p.2.op ≠ 3 → Fit p.1 (ownN p.2.op)) (hu : p.1.m = 0 → p.2.ok) :
    Calls Tryz.prog 143 #[.pointer (some ⟨c, 0, none⟩), .pointer (some ⟨r, 0, none⟩)] w (RPost w base c r (ownS p)) := by
  have c0 : w.cell? ⟨r, 0, none⟩ = some (.int .i64 p.2.op) := Blk.is hR 0 rfl
  have HC := Lib.hid hC
  have HR := Lib.hid hR
  have HW := Lib.hid (Below.refl base w)
  clear hC hR
  by_cases h5 : p.2.op = 5
  · have hN : ownN p.2.op = 14 := by simp [ownN, h5]
    have hS : ownS p = nS LTil 4 4294967295 (boxS (nS LZoom 1 16 (nS LRights 1 31 (p)))) := by simp [ownS, h5]
    have hf := hf (by omega)
    rw [hN] at hf
    have hf := Lib.hid hf
    have HE := Lib.hid hS
    clear hN hS
    rw [HE.out]
    rw [h5] at c0
    go_enter Tryz.func143, Tryz.ntmps143
    go_wp2_with fail
    refine (number_ok LRights _ base c r (p) HC.out HR.out hcr hbr 1 14 31 hf.out (by decide) (by decide) (by decide) (by decide) (by decide)).mono ?_
    rintro e w1 ⟨rfl, hC, hR, hW⟩
    have HW := Lib.hid (HW.out.trans hW)
    have HC := Lib.hid hC
    have HR := Lib.hid hR
    clear hC hR hW
    have hf := Lib.hid (show Fit (nS LRights 1 31 (p)).1 13 from fit_n (b := 14) (j := 13) hf.out rfl)
    go_wp2_with fail
    refine (number_ok LZoom _ base c r (nS LRights 1 31 (p)) HC.out HR.out hcr hbr 1 13 16 hf.out (by decide) (by decide) (by decide) (by decide) (by decide)).mono ?_
    rintro e w2 ⟨rfl, hC, hR, hW⟩
    have HW := Lib.hid (HW.out.trans hW)
    have HC := Lib.hid hC
    have HR := Lib.hid hR
    clear hC hR hW
    have hf := Lib.hid (show Fit (nS LZoom 1 16 (nS LRights 1 31 (p))).1 12 from fit_n (b := 13) (j := 12) hf.out rfl)
    go_wp2_with fail
    refine (box_ok _ base c r (nS LZoom 1 16 (nS LRights 1 31 (p))) HC.out HR.out hcr hbr 12 hf.out (by decide)).mono ?_
    rintro e w3 ⟨rfl, hC, hR, hW⟩
    have HW := Lib.hid (HW.out.trans hW)
    have HC := Lib.hid hC
    have HR := Lib.hid hR
    clear hC hR hW
    have hf := Lib.hid (show Fit (boxS (nS LZoom 1 16 (nS LRights 1 31 (p)))).1 4 from fit_box (b := 12) (j := 4) hf.out rfl)
    go_wp2_with fail
    refine (number_ok LTil _ base c r (boxS (nS LZoom 1 16 (nS LRights 1 31 (p)))) HC.out HR.out hcr hbr 4 4 4294967295 hf.out (by decide) (by decide) (by decide) (by decide) (by decide)).mono ?_
    rintro e w4 ⟨rfl, hC, hR, hW⟩
    have HW := Lib.hid (HW.out.trans hW)
    have HC := Lib.hid hC
    have HR := Lib.hid hR
    clear hC hR hW
    have hf := Lib.hid (show Fit (nS LTil 4 4294967295 (boxS (nS LZoom 1 16 (nS LRights 1 31 (p))))).1 0 from fit_n (b := 4) (j := 0) hf.out rfl)
    go_wp2_with fail
    refine bodyPost_ret (results_none rfl _ _ _) rfl ?_
    exact ⟨rfl, HC.out, HR.out, HW.out⟩
  by_cases h6 : p.2.op = 6
  · have hN : ownN p.2.op = 8 := by simp [ownN, h6]
    have hS : ownS p = lS LOther (p) := by simp [ownS, h6]
    have hf := hf (by omega)
    rw [hN] at hf
    have hf := Lib.hid hf
    have HE := Lib.hid hS
    clear hN hS
    rw [HE.out]
    rw [h6] at c0
    go_enter Tryz.func143, Tryz.ntmps143
    go_wp2_with fail
    refine (long_ok LOther _ base c r (p) HC.out HR.out hcr hbr 8 hf.out (by decide) (fun e => (hu e).2.1)).mono ?_
    rintro e w1 ⟨rfl, hC, hR, hW⟩
    have HW := Lib.hid (HW.out.trans hW)
    have HC := Lib.hid hC
    have HR := Lib.hid hR
    clear hC hR hW
    have hf := Lib.hid (show Fit (lS LOther (p)).1 0 from fit_l (b := 8) (j := 0) hf.out rfl)
    go_wp2_with fail
    refine bodyPost_ret (results_none rfl _ _ _) rfl ?_
    exact ⟨rfl, HC.out, HR.out, HW.out⟩
  by_cases h7 : p.2.op = 7
  · have hN : ownN p.2.op = 10 := by simp [ownN, h7]
    have hS : ownS p = lS LArea (nS LPk 2 65535 (p)) := by simp [ownS, h7]
    have hf := hf (by omega)
    rw [hN] at hf
    have hf := Lib.hid hf
    have HE := Lib.hid hS
    clear hN hS
    rw [HE.out]
    rw [h7] at c0
    go_enter Tryz.func143, Tryz.ntmps143
    go_wp2_with fail
    refine (number_ok LPk _ base c r (p) HC.out HR.out hcr hbr 2 10 65535 hf.out (by decide) (by decide) (by decide) (by decide) (by decide)).mono ?_
    rintro e w1 ⟨rfl, hC, hR, hW⟩
    have HW := Lib.hid (HW.out.trans hW)
    have HC := Lib.hid hC
    have HR := Lib.hid hR
    clear hC hR hW
    have hf := Lib.hid (show Fit (nS LPk 2 65535 (p)).1 8 from fit_n (b := 10) (j := 8) hf.out rfl)
    go_wp2_with fail
    refine (long_ok LArea _ base c r (nS LPk 2 65535 (p)) HC.out HR.out hcr hbr 8 hf.out (by decide) (fun e => by rw [nS_md] at e; rw [nS_wr e]; exact (hu e).2.2)).mono ?_
    rintro e w2 ⟨rfl, hC, hR, hW⟩
    have HW := Lib.hid (HW.out.trans hW)
    have HC := Lib.hid hC
    have HR := Lib.hid hR
    clear hC hR hW
    have hf := Lib.hid (show Fit (lS LArea (nS LPk 2 65535 (p))).1 0 from fit_l (b := 8) (j := 0) hf.out rfl)
    go_wp2_with fail
    refine bodyPost_ret (results_none rfl _ _ _) rfl ?_
    exact ⟨rfl, HC.out, HR.out, HW.out⟩
  by_cases h8 : p.2.op = 8
  · have hN : ownN p.2.op = 5 := by simp [ownN, h8]
    have hS : ownS p = nS LLabel 1 7 (pointS (p)) := by simp [ownS, h8]
    have hf := hf (by omega)
    rw [hN] at hf
    have hf := Lib.hid hf
    have HE := Lib.hid hS
    clear hN hS
    rw [HE.out]
    rw [h8] at c0
    go_enter Tryz.func143, Tryz.ntmps143
    go_wp2_with fail
    refine (point_ok _ base c r (p) HC.out HR.out hcr hbr 5 hf.out (by decide)).mono ?_
    rintro e w1 ⟨rfl, hC, hR, hW⟩
    have HW := Lib.hid (HW.out.trans hW)
    have HC := Lib.hid hC
    have HR := Lib.hid hR
    clear hC hR hW
    have hf := Lib.hid (show Fit (pointS (p)).1 1 from fit_point (b := 5) (j := 1) hf.out rfl)
    go_wp2_with fail
    refine (number_ok LLabel _ base c r (pointS (p)) HC.out HR.out hcr hbr 1 1 7 hf.out (by decide) (by decide) (by decide) (by decide) (by decide)).mono ?_
    rintro e w2 ⟨rfl, hC, hR, hW⟩
    have HW := Lib.hid (HW.out.trans hW)
    have HC := Lib.hid hC
    have HR := Lib.hid hR
    clear hC hR hW
    have hf := Lib.hid (show Fit (nS LLabel 1 7 (pointS (p))).1 0 from fit_n (b := 1) (j := 0) hf.out rfl)
    go_wp2_with fail
    refine bodyPost_ret (results_none rfl _ _ _) rfl ?_
    exact ⟨rfl, HC.out, HR.out, HW.out⟩
  by_cases h13 : p.2.op = 13
  · have hN : ownN p.2.op = 8 := by simp [ownN, h13]
    have hS : ownS p = boxS (p) := by simp [ownS, h13]
    have hf := hf (by omega)
    rw [hN] at hf
    have hf := Lib.hid hf
    have HE := Lib.hid hS
    clear hN hS
    rw [HE.out]
    rw [h13] at c0
    go_enter Tryz.func143, Tryz.ntmps143
    go_wp2_with fail
    refine (box_ok _ base c r (p) HC.out HR.out hcr hbr 8 hf.out (by decide)).mono ?_
    rintro e w1 ⟨rfl, hC, hR, hW⟩
    have HW := Lib.hid (HW.out.trans hW)
    have HC := Lib.hid hC
    have HR := Lib.hid hR
    clear hC hR hW
    have hf := Lib.hid (show Fit (boxS (p)).1 0 from fit_box (b := 8) (j := 0) hf.out rfl)
    go_wp2_with fail
    refine bodyPost_ret (results_none rfl _ _ _) rfl ?_
    exact ⟨rfl, HC.out, HR.out, HW.out⟩
  by_cases h15 : p.2.op = 15
  · have hN : ownN p.2.op = 8 := by simp [ownN, h15]
    have hS : ownS p = boxS (p) := by simp [ownS, h15]
    have hf := hf (by omega)
    rw [hN] at hf
    have hf := Lib.hid hf
    have HE := Lib.hid hS
    clear hN hS
    rw [HE.out]
    rw [h15] at c0
    go_enter Tryz.func143, Tryz.ntmps143
    go_wp2_with fail
    refine (box_ok _ base c r (p) HC.out HR.out hcr hbr 8 hf.out (by decide)).mono ?_
    rintro e w1 ⟨rfl, hC, hR, hW⟩
    have HW := Lib.hid (HW.out.trans hW)
    have HC := Lib.hid hC
    have HR := Lib.hid hR
    clear hC hR hW
    have hf := Lib.hid (show Fit (boxS (p)).1 0 from fit_box (b := 8) (j := 0) hf.out rfl)
    go_wp2_with fail
    refine bodyPost_ret (results_none rfl _ _ _) rfl ?_
    exact ⟨rfl, HC.out, HR.out, HW.out⟩
  by_cases h14 : p.2.op = 14
  · have hN : ownN p.2.op = 4 := by simp [ownN, h14]
    have hS : ownS p = pointS (p) := by simp [ownS, h14]
    have hf := hf (by omega)
    rw [hN] at hf
    have hf := Lib.hid hf
    have HE := Lib.hid hS
    clear hN hS
    rw [HE.out]
    rw [h14] at c0
    go_enter Tryz.func143, Tryz.ntmps143
    go_wp2_with fail
    refine (point_ok _ base c r (p) HC.out HR.out hcr hbr 4 hf.out (by decide)).mono ?_
    rintro e w1 ⟨rfl, hC, hR, hW⟩
    have HW := Lib.hid (HW.out.trans hW)
    have HC := Lib.hid hC
    have HR := Lib.hid hR
    clear hC hR hW
    have hf := Lib.hid (show Fit (pointS (p)).1 0 from fit_point (b := 4) (j := 0) hf.out rfl)
    go_wp2_with fail
    refine bodyPost_ret (results_none rfl _ _ _) rfl ?_
    exact ⟨rfl, HC.out, HR.out, HW.out⟩
  by_cases h16 : p.2.op = 16
  · have hN : ownN p.2.op = 4 := by simp [ownN, h16]
    have hS : ownS p = pointS (p) := by simp [ownS, h16]
    have hf := hf (by omega)
    rw [hN] at hf
    have hf := Lib.hid hf
    have HE := Lib.hid hS
    clear hN hS
    rw [HE.out]
    rw [h16] at c0
    go_enter Tryz.func143, Tryz.ntmps143
    go_wp2_with fail
    refine (point_ok _ base c r (p) HC.out HR.out hcr hbr 4 hf.out (by decide)).mono ?_
    rintro e w1 ⟨rfl, hC, hR, hW⟩
    have HW := Lib.hid (HW.out.trans hW)
    have HC := Lib.hid hC
    have HR := Lib.hid hR
    clear hC hR hW
    have hf := Lib.hid (show Fit (pointS (p)).1 0 from fit_point (b := 4) (j := 0) hf.out rfl)
    go_wp2_with fail
    refine bodyPost_ret (results_none rfl _ _ _) rfl ?_
    exact ⟨rfl, HC.out, HR.out, HW.out⟩
  by_cases h17 : p.2.op = 17
  · have hN : ownN p.2.op = 2 := by simp [ownN, h17]
    have hS : ownS p = nS LFrm 2 65535 (p) := by simp [ownS, h17]
    have hf := hf (by omega)
    rw [hN] at hf
    have hf := Lib.hid hf
    have HE := Lib.hid hS
    clear hN hS
    rw [HE.out]
    rw [h17] at c0
    go_enter Tryz.func143, Tryz.ntmps143
    go_wp2_with fail
    refine (number_ok LFrm _ base c r (p) HC.out HR.out hcr hbr 2 2 65535 hf.out (by decide) (by decide) (by decide) (by decide) (by decide)).mono ?_
    rintro e w1 ⟨rfl, hC, hR, hW⟩
    have HW := Lib.hid (HW.out.trans hW)
    have HC := Lib.hid hC
    have HR := Lib.hid hR
    clear hC hR hW
    have hf := Lib.hid (show Fit (nS LFrm 2 65535 (p)).1 0 from fit_n (b := 2) (j := 0) hf.out rfl)
    go_wp2_with fail
    refine bodyPost_ret (results_none rfl _ _ _) rfl ?_
    exact ⟨rfl, HC.out, HR.out, HW.out⟩
  · have hS : ownS p = p := by simp [ownS, h5, h6, h7, h8, h13, h15, h14, h16, h17]
    have HE := Lib.hid hS
    clear hS
    rw [HE.out]
    clear hf HE
    generalize p.2.op = o at *
    go_enter Tryz.func143, Tryz.ntmps143
    go_wp2_with fail
    refine bodyPost_ret (results_none rfl _ _ _) rfl ?_
    exact ⟨rfl, HC.out, HR.out, HW.out⟩

end Go.Proofs.YtldjgpnbkbmgoaaGreatDoor
