/-
  The reader's fields. Conditions: as each states.
  PRINTED BY genreader.py.
-/
import Derived.Test.YtldjgpnbkbmgoaaGreatDoorInto
namespace Go.Proofs.YtldjgpnbkbmgoaaGreatDoor
open Go.RowKit

def nx1 {off : Nat} (L : Lens off) (p : Req × RSt) : Req × RSt := (L.set p.1 ((rNum p.2).1 : Nat), (rNum p.2).2)
def qx1 (p : Req × RSt) : Req × RSt := ({ p.1 with txt := (rTxt p.2).1 }, (rTxt p.2).2)
def hx1 (p : Req × RSt) : Req × RSt := ({ p.1 with other := (rSec p.2).1 }, (rSec p.2).2)
def tx1 (p : Req × RSt) : Req × RSt := ({ p.1 with area := (rLong p.2).1 }, (rLong p.2).2)
theorem intoS_cons {o : Nat} (L : Lens o) (r : List Nat) (q : Req) (s : RSt) : intoS (o :: r) (rqC q, s) = intoS r (rqC (nx1 L (q, s)).1, (nx1 L (q, s)).2) := by
  rw [intoS]
  unfold nx1
  rw [← L.put]
theorem intoS_p {o : Nat} (L : Lens o) (r : List Nat) (p : Req × RSt) : intoS (o :: r) (rqC p.1, p.2) = intoS r (rqC (nx1 L p).1, (nx1 L p).2) := intoS_cons L r p.1 p.2
/-- What the reader makes of an operation's fields. -/
def rF (p : Req × RSt) : Req × RSt :=
  if p.1.op = 1 then nx1 LQuota (nx1 LTier (nx1 LRole (nx1 LWhom (p)))) else
  if p.1.op = 2 then nx1 LWhom (p) else
  if p.1.op = 3 then qx1 (p) else
  if p.1.op = 4 then nx1 LTil (nx1 LRights (nx1 LWhom (p))) else
  if p.1.op = 5 then nx1 LTil (nx1 LY1 (nx1 LX1 (nx1 LY0 (nx1 LX0 (nx1 LZoom (nx1 LRights (p))))))) else
  if p.1.op = 6 then hx1 (p) else
  if p.1.op = 7 then tx1 (nx1 LPk (p)) else
  if p.1.op = 8 then nx1 LLabel (nx1 LAy (nx1 LAx (p))) else
  if p.1.op = 13 then nx1 LY1 (nx1 LX1 (nx1 LY0 (nx1 LX0 (p)))) else
  if p.1.op = 14 then nx1 LAy (nx1 LAx (p)) else
  if p.1.op = 15 then nx1 LY1 (nx1 LX1 (nx1 LY0 (nx1 LX0 (p)))) else
  if p.1.op = 16 then nx1 LAy (nx1 LAx (p)) else
  if p.1.op = 17 then nx1 LFrm (p) else
  if p.1.op = 19 then nx1 LQuota (nx1 LWhom (p)) else
  p
def QPut (w : World) (g t : Nat) (p : Req × RSt) (e : Ending) (w' : World) : Prop := e = .returned (.tuple #[]) ∧ Rd w' g p.2 ∧ Rq w' t p.1 ∧ Two w w' g t

set_option maxRecDepth 100000 in
set_option maxHeartbeats 4000000 in
theorem rfields_1 (w : World) (g : Nat) (s : RSt) (h : Rd w g s) (t : Nat) (q : Req) (hR : Rq w t q) (hgt : g < t) (hop : q.op = 1) :
    Calls Tryz.prog 64 #[.pointer (some ⟨g, 0, none⟩), .pointer (some ⟨t, 0, none⟩)] w (QPut w g t (rF (q, s))) := by
  have he : rF (q, s) = nx1 LQuota (nx1 LTier (nx1 LRole (nx1 LWhom ((q, s))))) := by simp [rF, hop]
  have HE := Lib.hid he
  have c0 := (show World.cell? _ ⟨t, 0, none⟩ = some (.int .i64 q.op) from Blk.is hR 0 rfl)
  rw [hop] at c0
  have HH := Lib.hid h
  have HR := Lib.hid (show Blk w t 60 (rqC q) from hR)
  have HW := Lib.hid (Two.refl w g t)
  clear h hR he hop
  obtain ⟨p, hp⟩ : ∃ p, p = (q, s) := ⟨_, rfl⟩
  have HH := Lib.hid (show Rd w g p.2 from by rw [hp]; exact HH.out)
  have HR := Lib.hid (show Blk w t 60 (rqC p.1) from by rw [hp]; exact HR.out)
  have HP := Lib.hid hp
  clear hp
  go_enter Tryz.func64, Tryz.ntmps64
  go_wp2_with fail
  go_region_held3 (fun _ => True) (trivial) (first | (go_at_call 99; refine (into_new _ g p.2 (by exact HH.out.drew) t 60 (rqC p.1) (by exact HR.out.drew) hgt [5, 6, 7, 8] (by simp) _ (by rfl) _ (by rfl) (by decide) _ (by rfl) (by simp)).mono ?_; rintro e w1 ⟨rfl, h1, h2, h3⟩; rw [intoS_p LWhom] at h1 h2; rw [intoS_p LRole] at h1 h2; rw [intoS_p LTier] at h1 h2; rw [intoS_p LQuota] at h1 h2; have HH := Lib.hid (show Rd _ g (nx1 LQuota (nx1 LTier (nx1 LRole (nx1 LWhom (p))))).2 from h1); have HR := Lib.hid (show Blk _ t 60 (rqC (nx1 LQuota (nx1 LTier (nx1 LRole (nx1 LWhom (p))))).1) from h2); have HW := Lib.hid (HW.out.drew.trans h3); clear h1 h2 h3; obtain ⟨p1, hp⟩ : ∃ p1, p1 = nx1 LQuota (nx1 LTier (nx1 LRole (nx1 LWhom (p)))) := ⟨_, rfl⟩; rw [← hp] at HH HR; have HP1 := Lib.hid hp; clear hp))
  all_goals
    go_wp2_with fail
    refine bodyPost_ret (results_none rfl _ _ _) rfl ?_
    have hfin : rF (q, s) = p1 := by rw [HE.out, HP1.out, HP.out]
    rw [hfin]
    exact ⟨rfl, HH.out, HR.out, HW.out⟩

set_option maxRecDepth 100000 in
set_option maxHeartbeats 4000000 in
theorem rfields_2 (w : World) (g : Nat) (s : RSt) (h : Rd w g s) (t : Nat) (q : Req) (hR : Rq w t q) (hgt : g < t) (hop : q.op = 2) :
    Calls Tryz.prog 64 #[.pointer (some ⟨g, 0, none⟩), .pointer (some ⟨t, 0, none⟩)] w (QPut w g t (rF (q, s))) := by
  have he : rF (q, s) = nx1 LWhom ((q, s)) := by simp [rF, hop]
  have HE := Lib.hid he
  have c0 := (show World.cell? _ ⟨t, 0, none⟩ = some (.int .i64 q.op) from Blk.is hR 0 rfl)
  rw [hop] at c0
  have HH := Lib.hid h
  have HR := Lib.hid (show Blk w t 60 (rqC q) from hR)
  have HW := Lib.hid (Two.refl w g t)
  clear h hR he hop
  obtain ⟨p, hp⟩ : ∃ p, p = (q, s) := ⟨_, rfl⟩
  have HH := Lib.hid (show Rd w g p.2 from by rw [hp]; exact HH.out)
  have HR := Lib.hid (show Blk w t 60 (rqC p.1) from by rw [hp]; exact HR.out)
  have HP := Lib.hid hp
  clear hp
  go_enter Tryz.func64, Tryz.ntmps64
  go_wp2_with fail
  refine (into_new _ g p.2 HH.out t 60 (rqC p.1) HR.out hgt [5] (by simp) _ rfl _ rfl (by decide) _ rfl (by simp)).mono ?_
  rintro e w1 ⟨rfl, h1, h2, h3⟩
  rw [intoS_p LWhom] at h1 h2
  have HH := Lib.hid (show Rd _ g (nx1 LWhom (p)).2 from h1)
  have HR := Lib.hid (show Blk _ t 60 (rqC (nx1 LWhom (p)).1) from h2)
  have HW := Lib.hid (HW.out.trans h3)
  clear h1 h2 h3
  obtain ⟨p1, hp⟩ : ∃ p1, p1 = nx1 LWhom (p) := ⟨_, rfl⟩
  rw [← hp] at HH HR
  have HP1 := Lib.hid hp
  clear hp
  go_wp2_with fail
  refine bodyPost_ret (results_none rfl _ _ _) rfl ?_
  have hfin : rF (q, s) = p1 := by rw [HE.out, HP1.out, HP.out]
  rw [hfin]
  exact ⟨rfl, HH.out, HR.out, HW.out⟩

set_option maxRecDepth 100000 in
set_option maxHeartbeats 4000000 in
theorem rfields_3 (w : World) (g : Nat) (s : RSt) (h : Rd w g s) (t : Nat) (q : Req) (hR : Rq w t q) (hgt : g < t) (hop : q.op = 3) :
    Calls Tryz.prog 64 #[.pointer (some ⟨g, 0, none⟩), .pointer (some ⟨t, 0, none⟩)] w (QPut w g t (rF (q, s))) := by
  have he : rF (q, s) = qx1 ((q, s)) := by simp [rF, hop]
  have HE := Lib.hid he
  have c0 := (show World.cell? _ ⟨t, 0, none⟩ = some (.int .i64 q.op) from Blk.is hR 0 rfl)
  rw [hop] at c0
  have HH := Lib.hid h
  have HR := Lib.hid (show Blk w t 60 (rqC q) from hR)
  have HW := Lib.hid (Two.refl w g t)
  clear h hR he hop
  obtain ⟨p, hp⟩ : ∃ p, p = (q, s) := ⟨_, rfl⟩
  have HH := Lib.hid (show Rd w g p.2 from by rw [hp]; exact HH.out)
  have HR := Lib.hid (show Blk w t 60 (rqC p.1) from by rw [hp]; exact HR.out)
  have HP := Lib.hid hp
  clear hp
  go_enter Tryz.func64, Tryz.ntmps64
  go_wp2_with fail
  refine (text_rd _ g p.2 HH.out).mono ?_
  rintro e w1 ⟨rfl, h1, h2⟩
  have hb := HR.out.grown h2 (fun e => by have := Option.some.inj e; omega)
  have d0 := (show World.cell? _ ⟨t, 9, none⟩ = some (strV p.1.txt) from hb.is 9 rfl)
  have g0 := hb.frozen 9
  have HH := Lib.hid (show Rd _ g (qx1 (p)).2 from h1.far (grow_set _ t 9 (strV (rTxt p.2).1)) hgt)
  have HR := Lib.hid (show Blk _ t 60 (rqC (qx1 (p)).1) from hb.put 9 (strV (rTxt p.2).1))
  have HW := Lib.hid ((HW.out.trans (Two.of_g h2)).trans (Two.of_t (grow_set _ t 9 (strV (rTxt p.2).1))))
  clear h1 h2 hb
  obtain ⟨p1, hp⟩ : ∃ p1, p1 = qx1 (p) := ⟨_, rfl⟩
  rw [← hp] at HH HR
  have HP1 := Lib.hid hp
  clear hp
  go_wp2_with fail
  refine bodyPost_ret (results_none rfl _ _ _) rfl ?_
  have hfin : rF (q, s) = p1 := by rw [HE.out, HP1.out, HP.out]
  rw [hfin]
  exact ⟨rfl, HH.out, HR.out, HW.out⟩

set_option maxRecDepth 100000 in
set_option maxHeartbeats 4000000 in
theorem rfields_4 (w : World) (g : Nat) (s : RSt) (h : Rd w g s) (t : Nat) (q : Req) (hR : Rq w t q) (hgt : g < t) (hop : q.op = 4) :
    Calls Tryz.prog 64 #[.pointer (some ⟨g, 0, none⟩), .pointer (some ⟨t, 0, none⟩)] w (QPut w g t (rF (q, s))) := by
  have he : rF (q, s) = nx1 LTil (nx1 LRights (nx1 LWhom ((q, s)))) := by simp [rF, hop]
  have HE := Lib.hid he
  have c0 := (show World.cell? _ ⟨t, 0, none⟩ = some (.int .i64 q.op) from Blk.is hR 0 rfl)
  rw [hop] at c0
  have HH := Lib.hid h
  have HR := Lib.hid (show Blk w t 60 (rqC q) from hR)
  have HW := Lib.hid (Two.refl w g t)
  clear h hR he hop
  obtain ⟨p, hp⟩ : ∃ p, p = (q, s) := ⟨_, rfl⟩
  have HH := Lib.hid (show Rd w g p.2 from by rw [hp]; exact HH.out)
  have HR := Lib.hid (show Blk w t 60 (rqC p.1) from by rw [hp]; exact HR.out)
  have HP := Lib.hid hp
  clear hp
  go_enter Tryz.func64, Tryz.ntmps64
  go_wp2_with fail
  go_region_held3 (fun _ => True) (trivial) (first | (go_at_call 99; refine (into_new _ g p.2 (by exact HH.out.drew) t 60 (rqC p.1) (by exact HR.out.drew) hgt [5, 10, 16] (by simp) _ (by rfl) _ (by rfl) (by decide) _ (by rfl) (by simp)).mono ?_; rintro e w1 ⟨rfl, h1, h2, h3⟩; rw [intoS_p LWhom] at h1 h2; rw [intoS_p LRights] at h1 h2; rw [intoS_p LTil] at h1 h2; have HH := Lib.hid (show Rd _ g (nx1 LTil (nx1 LRights (nx1 LWhom (p)))).2 from h1); have HR := Lib.hid (show Blk _ t 60 (rqC (nx1 LTil (nx1 LRights (nx1 LWhom (p)))).1) from h2); have HW := Lib.hid (HW.out.drew.trans h3); clear h1 h2 h3; obtain ⟨p1, hp⟩ : ∃ p1, p1 = nx1 LTil (nx1 LRights (nx1 LWhom (p))) := ⟨_, rfl⟩; rw [← hp] at HH HR; have HP1 := Lib.hid hp; clear hp))
  all_goals
    go_wp2_with fail
    refine bodyPost_ret (results_none rfl _ _ _) rfl ?_
    have hfin : rF (q, s) = p1 := by rw [HE.out, HP1.out, HP.out]
    rw [hfin]
    exact ⟨rfl, HH.out, HR.out, HW.out⟩

set_option maxRecDepth 100000 in
set_option maxHeartbeats 4000000 in
theorem rfields_5 (w : World) (g : Nat) (s : RSt) (h : Rd w g s) (t : Nat) (q : Req) (hR : Rq w t q) (hgt : g < t) (hop : q.op = 5) :
    Calls Tryz.prog 64 #[.pointer (some ⟨g, 0, none⟩), .pointer (some ⟨t, 0, none⟩)] w (QPut w g t (rF (q, s))) := by
  have he : rF (q, s) = nx1 LTil (nx1 LY1 (nx1 LX1 (nx1 LY0 (nx1 LX0 (nx1 LZoom (nx1 LRights ((q, s)))))))) := by simp [rF, hop]
  have HE := Lib.hid he
  have c0 := (show World.cell? _ ⟨t, 0, none⟩ = some (.int .i64 q.op) from Blk.is hR 0 rfl)
  rw [hop] at c0
  have HH := Lib.hid h
  have HR := Lib.hid (show Blk w t 60 (rqC q) from hR)
  have HW := Lib.hid (Two.refl w g t)
  clear h hR he hop
  obtain ⟨p, hp⟩ : ∃ p, p = (q, s) := ⟨_, rfl⟩
  have HH := Lib.hid (show Rd w g p.2 from by rw [hp]; exact HH.out)
  have HR := Lib.hid (show Blk w t 60 (rqC p.1) from by rw [hp]; exact HR.out)
  have HP := Lib.hid hp
  clear hp
  go_enter Tryz.func64, Tryz.ntmps64
  go_wp2_with fail
  go_region_held3 (fun _ => True) (trivial) (first | (go_at_call 99; refine (into_new _ g p.2 (by exact HH.out.drew) t 60 (rqC p.1) (by exact HR.out.drew) hgt [10, 11] (by simp) _ (by rfl) _ (by rfl) (by decide) _ (by rfl) (by simp)).mono ?_; rintro e w1 ⟨rfl, h1, h2, h3⟩; rw [intoS_p LRights] at h1 h2; rw [intoS_p LZoom] at h1 h2; have HH := Lib.hid (show Rd _ g (nx1 LZoom (nx1 LRights (p))).2 from h1); have HR := Lib.hid (show Blk _ t 60 (rqC (nx1 LZoom (nx1 LRights (p))).1) from h2); have HW := Lib.hid (HW.out.drew.trans h3); clear h1 h2 h3; obtain ⟨p1, hp⟩ : ∃ p1, p1 = nx1 LZoom (nx1 LRights (p)) := ⟨_, rfl⟩; rw [← hp] at HH HR; have HP1 := Lib.hid hp; clear hp))
  all_goals
    go_wp2_with fail
    refine (rect_rd _ g p1.2 HH.out t 60 (rqC p1.1) HR.out hgt 12 (by simp) (by decide)).mono ?_
    rintro e w2 ⟨rfl, h1, h2, h3⟩
    rw [intoS_p LX0] at h1 h2
    rw [intoS_p LY0] at h1 h2
    rw [intoS_p LX1] at h1 h2
    rw [intoS_p LY1] at h1 h2
    have HH := Lib.hid (show Rd _ g (nx1 LY1 (nx1 LX1 (nx1 LY0 (nx1 LX0 (p1))))).2 from h1)
    have HR := Lib.hid (show Blk _ t 60 (rqC (nx1 LY1 (nx1 LX1 (nx1 LY0 (nx1 LX0 (p1))))).1) from h2)
    have HW := Lib.hid (HW.out.trans h3)
    clear h1 h2 h3
    obtain ⟨p2, hp⟩ : ∃ p2, p2 = nx1 LY1 (nx1 LX1 (nx1 LY0 (nx1 LX0 (p1)))) := ⟨_, rfl⟩
    rw [← hp] at HH HR
    have HP2 := Lib.hid hp
    clear hp
    go_wp2_with fail
    refine (into_new _ g p2.2 HH.out t 60 (rqC p2.1) HR.out hgt [16] (by simp) _ rfl _ rfl (by decide) _ rfl (by simp)).mono ?_
    rintro e w3 ⟨rfl, h1, h2, h3⟩
    rw [intoS_p LTil] at h1 h2
    have HH := Lib.hid (show Rd _ g (nx1 LTil (p2)).2 from h1)
    have HR := Lib.hid (show Blk _ t 60 (rqC (nx1 LTil (p2)).1) from h2)
    have HW := Lib.hid (HW.out.trans h3)
    clear h1 h2 h3
    obtain ⟨p3, hp⟩ : ∃ p3, p3 = nx1 LTil (p2) := ⟨_, rfl⟩
    rw [← hp] at HH HR
    have HP3 := Lib.hid hp
    clear hp
    go_wp2_with fail
    refine bodyPost_ret (results_none rfl _ _ _) rfl ?_
    have hfin : rF (q, s) = p3 := by rw [HE.out, HP3.out, HP2.out, HP1.out, HP.out]
    rw [hfin]
    exact ⟨rfl, HH.out, HR.out, HW.out⟩

set_option maxRecDepth 100000 in
set_option maxHeartbeats 4000000 in
theorem rfields_6 (w : World) (g : Nat) (s : RSt) (h : Rd w g s) (t : Nat) (q : Req) (hR : Rq w t q) (hgt : g < t) (hop : q.op = 6) :
    Calls Tryz.prog 64 #[.pointer (some ⟨g, 0, none⟩), .pointer (some ⟨t, 0, none⟩)] w (QPut w g t (rF (q, s))) := by
  have he : rF (q, s) = hx1 ((q, s)) := by simp [rF, hop]
  have HE := Lib.hid he
  have c0 := (show World.cell? _ ⟨t, 0, none⟩ = some (.int .i64 q.op) from Blk.is hR 0 rfl)
  rw [hop] at c0
  have HH := Lib.hid h
  have HR := Lib.hid (show Blk w t 60 (rqC q) from hR)
  have HW := Lib.hid (Two.refl w g t)
  clear h hR he hop
  obtain ⟨p, hp⟩ : ∃ p, p = (q, s) := ⟨_, rfl⟩
  have HH := Lib.hid (show Rd w g p.2 from by rw [hp]; exact HH.out)
  have HR := Lib.hid (show Blk w t 60 (rqC p.1) from by rw [hp]; exact HR.out)
  have HP := Lib.hid hp
  clear hp
  go_enter Tryz.func64, Tryz.ntmps64
  go_wp2_with fail
  refine (secret_rd _ g p.2 HH.out).mono ?_
  rintro e w1 ⟨rfl, h1, h2⟩
  have hb := HR.out.grown h2 (fun e => by have := Option.some.inj e; omega)
  have d0 := (show World.cell? _ ⟨t, 17, none⟩ = some (.int .u64 (p.1.other : Nat)) from hb.is 17 rfl)
  have g0 := hb.frozen 17
  have HH := Lib.hid (show Rd _ g (hx1 (p)).2 from h1.far (grow_set _ t 17 (.int .u64 ((rSec p.2).1 : Nat))) hgt)
  have HR := Lib.hid (show Blk _ t 60 (rqC (hx1 (p)).1) from hb.put 17 (.int .u64 ((rSec p.2).1 : Nat)))
  have HW := Lib.hid ((HW.out.trans (Two.of_g h2)).trans (Two.of_t (grow_set _ t 17 (.int .u64 ((rSec p.2).1 : Nat)))))
  clear h1 h2 hb
  obtain ⟨p1, hp⟩ : ∃ p1, p1 = hx1 (p) := ⟨_, rfl⟩
  rw [← hp] at HH HR
  have HP1 := Lib.hid hp
  clear hp
  go_wp2_with fail
  refine bodyPost_ret (results_none rfl _ _ _) rfl ?_
  have hfin : rF (q, s) = p1 := by rw [HE.out, HP1.out, HP.out]
  rw [hfin]
  exact ⟨rfl, HH.out, HR.out, HW.out⟩

set_option maxRecDepth 100000 in
set_option maxHeartbeats 4000000 in
theorem rfields_7 (w : World) (g : Nat) (s : RSt) (h : Rd w g s) (t : Nat) (q : Req) (hR : Rq w t q) (hgt : g < t) (hop : q.op = 7) :
    Calls Tryz.prog 64 #[.pointer (some ⟨g, 0, none⟩), .pointer (some ⟨t, 0, none⟩)] w (QPut w g t (rF (q, s))) := by
  have he : rF (q, s) = tx1 (nx1 LPk ((q, s))) := by simp [rF, hop]
  have HE := Lib.hid he
  have c0 := (show World.cell? _ ⟨t, 0, none⟩ = some (.int .i64 q.op) from Blk.is hR 0 rfl)
  rw [hop] at c0
  have HH := Lib.hid h
  have HR := Lib.hid (show Blk w t 60 (rqC q) from hR)
  have HW := Lib.hid (Two.refl w g t)
  clear h hR he hop
  obtain ⟨p, hp⟩ : ∃ p, p = (q, s) := ⟨_, rfl⟩
  have HH := Lib.hid (show Rd w g p.2 from by rw [hp]; exact HH.out)
  have HR := Lib.hid (show Blk w t 60 (rqC p.1) from by rw [hp]; exact HR.out)
  have HP := Lib.hid hp
  clear hp
  go_enter Tryz.func64, Tryz.ntmps64
  go_wp2_with fail
  refine (into_new _ g p.2 HH.out t 60 (rqC p.1) HR.out hgt [18] (by simp) _ rfl _ rfl (by decide) _ rfl (by simp)).mono ?_
  rintro e w1 ⟨rfl, h1, h2, h3⟩
  rw [intoS_p LPk] at h1 h2
  have HH := Lib.hid (show Rd _ g (nx1 LPk (p)).2 from h1)
  have HR := Lib.hid (show Blk _ t 60 (rqC (nx1 LPk (p)).1) from h2)
  have HW := Lib.hid (HW.out.trans h3)
  clear h1 h2 h3
  obtain ⟨p1, hp⟩ : ∃ p1, p1 = nx1 LPk (p) := ⟨_, rfl⟩
  rw [← hp] at HH HR
  have HP1 := Lib.hid hp
  clear hp
  go_wp2_with fail
  refine (long_rd _ g p1.2 HH.out).mono ?_
  rintro e w2 ⟨rfl, h1, h2⟩
  have hb := HR.out.grown h2 (fun e => by have := Option.some.inj e; omega)
  have d0 := (show World.cell? _ ⟨t, 19, none⟩ = some (.int .u64 (p1.1.area : Nat)) from hb.is 19 rfl)
  have g0 := hb.frozen 19
  have HH := Lib.hid (show Rd _ g (tx1 (p1)).2 from h1.far (grow_set _ t 19 (.int .u64 ((rLong p1.2).1 : Nat))) hgt)
  have HR := Lib.hid (show Blk _ t 60 (rqC (tx1 (p1)).1) from hb.put 19 (.int .u64 ((rLong p1.2).1 : Nat)))
  have HW := Lib.hid ((HW.out.trans (Two.of_g h2)).trans (Two.of_t (grow_set _ t 19 (.int .u64 ((rLong p1.2).1 : Nat)))))
  clear h1 h2 hb
  obtain ⟨p2, hp⟩ : ∃ p2, p2 = tx1 (p1) := ⟨_, rfl⟩
  rw [← hp] at HH HR
  have HP2 := Lib.hid hp
  clear hp
  go_wp2_with fail
  refine bodyPost_ret (results_none rfl _ _ _) rfl ?_
  have hfin : rF (q, s) = p2 := by rw [HE.out, HP2.out, HP1.out, HP.out]
  rw [hfin]
  exact ⟨rfl, HH.out, HR.out, HW.out⟩

set_option maxRecDepth 100000 in
set_option maxHeartbeats 4000000 in
theorem rfields_8 (w : World) (g : Nat) (s : RSt) (h : Rd w g s) (t : Nat) (q : Req) (hR : Rq w t q) (hgt : g < t) (hop : q.op = 8) :
    Calls Tryz.prog 64 #[.pointer (some ⟨g, 0, none⟩), .pointer (some ⟨t, 0, none⟩)] w (QPut w g t (rF (q, s))) := by
  have he : rF (q, s) = nx1 LLabel (nx1 LAy (nx1 LAx ((q, s)))) := by simp [rF, hop]
  have HE := Lib.hid he
  have c0 := (show World.cell? _ ⟨t, 0, none⟩ = some (.int .i64 q.op) from Blk.is hR 0 rfl)
  rw [hop] at c0
  have HH := Lib.hid h
  have HR := Lib.hid (show Blk w t 60 (rqC q) from hR)
  have HW := Lib.hid (Two.refl w g t)
  clear h hR he hop
  obtain ⟨p, hp⟩ : ∃ p, p = (q, s) := ⟨_, rfl⟩
  have HH := Lib.hid (show Rd w g p.2 from by rw [hp]; exact HH.out)
  have HR := Lib.hid (show Blk w t 60 (rqC p.1) from by rw [hp]; exact HR.out)
  have HP := Lib.hid hp
  clear hp
  go_enter Tryz.func64, Tryz.ntmps64
  go_wp2_with fail
  go_region_held3 (fun _ => True) (trivial) (first | (go_at_call 99; refine (into_new _ g p.2 (by exact HH.out.drew) t 60 (rqC p.1) (by exact HR.out.drew) hgt [20, 21, 22] (by simp) _ (by rfl) _ (by rfl) (by decide) _ (by rfl) (by simp)).mono ?_; rintro e w1 ⟨rfl, h1, h2, h3⟩; rw [intoS_p LAx] at h1 h2; rw [intoS_p LAy] at h1 h2; rw [intoS_p LLabel] at h1 h2; have HH := Lib.hid (show Rd _ g (nx1 LLabel (nx1 LAy (nx1 LAx (p)))).2 from h1); have HR := Lib.hid (show Blk _ t 60 (rqC (nx1 LLabel (nx1 LAy (nx1 LAx (p)))).1) from h2); have HW := Lib.hid (HW.out.drew.trans h3); clear h1 h2 h3; obtain ⟨p1, hp⟩ : ∃ p1, p1 = nx1 LLabel (nx1 LAy (nx1 LAx (p))) := ⟨_, rfl⟩; rw [← hp] at HH HR; have HP1 := Lib.hid hp; clear hp))
  all_goals
    go_wp2_with fail
    refine bodyPost_ret (results_none rfl _ _ _) rfl ?_
    have hfin : rF (q, s) = p1 := by rw [HE.out, HP1.out, HP.out]
    rw [hfin]
    exact ⟨rfl, HH.out, HR.out, HW.out⟩

set_option maxRecDepth 100000 in
set_option maxHeartbeats 4000000 in
theorem rfields_13 (w : World) (g : Nat) (s : RSt) (h : Rd w g s) (t : Nat) (q : Req) (hR : Rq w t q) (hgt : g < t) (hop : q.op = 13) :
    Calls Tryz.prog 64 #[.pointer (some ⟨g, 0, none⟩), .pointer (some ⟨t, 0, none⟩)] w (QPut w g t (rF (q, s))) := by
  have he : rF (q, s) = nx1 LY1 (nx1 LX1 (nx1 LY0 (nx1 LX0 ((q, s))))) := by simp [rF, hop]
  have HE := Lib.hid he
  have c0 := (show World.cell? _ ⟨t, 0, none⟩ = some (.int .i64 q.op) from Blk.is hR 0 rfl)
  rw [hop] at c0
  have HH := Lib.hid h
  have HR := Lib.hid (show Blk w t 60 (rqC q) from hR)
  have HW := Lib.hid (Two.refl w g t)
  clear h hR he hop
  obtain ⟨p, hp⟩ : ∃ p, p = (q, s) := ⟨_, rfl⟩
  have HH := Lib.hid (show Rd w g p.2 from by rw [hp]; exact HH.out)
  have HR := Lib.hid (show Blk w t 60 (rqC p.1) from by rw [hp]; exact HR.out)
  have HP := Lib.hid hp
  clear hp
  go_enter Tryz.func64, Tryz.ntmps64
  go_wp2_with fail
  refine (rect_rd _ g p.2 HH.out t 60 (rqC p.1) HR.out hgt 12 (by simp) (by decide)).mono ?_
  rintro e w1 ⟨rfl, h1, h2, h3⟩
  rw [intoS_p LX0] at h1 h2
  rw [intoS_p LY0] at h1 h2
  rw [intoS_p LX1] at h1 h2
  rw [intoS_p LY1] at h1 h2
  have HH := Lib.hid (show Rd _ g (nx1 LY1 (nx1 LX1 (nx1 LY0 (nx1 LX0 (p))))).2 from h1)
  have HR := Lib.hid (show Blk _ t 60 (rqC (nx1 LY1 (nx1 LX1 (nx1 LY0 (nx1 LX0 (p))))).1) from h2)
  have HW := Lib.hid (HW.out.trans h3)
  clear h1 h2 h3
  obtain ⟨p1, hp⟩ : ∃ p1, p1 = nx1 LY1 (nx1 LX1 (nx1 LY0 (nx1 LX0 (p)))) := ⟨_, rfl⟩
  rw [← hp] at HH HR
  have HP1 := Lib.hid hp
  clear hp
  go_wp2_with fail
  refine bodyPost_ret (results_none rfl _ _ _) rfl ?_
  have hfin : rF (q, s) = p1 := by rw [HE.out, HP1.out, HP.out]
  rw [hfin]
  exact ⟨rfl, HH.out, HR.out, HW.out⟩

set_option maxRecDepth 100000 in
set_option maxHeartbeats 4000000 in
theorem rfields_14 (w : World) (g : Nat) (s : RSt) (h : Rd w g s) (t : Nat) (q : Req) (hR : Rq w t q) (hgt : g < t) (hop : q.op = 14) :
    Calls Tryz.prog 64 #[.pointer (some ⟨g, 0, none⟩), .pointer (some ⟨t, 0, none⟩)] w (QPut w g t (rF (q, s))) := by
  have he : rF (q, s) = nx1 LAy (nx1 LAx ((q, s))) := by simp [rF, hop]
  have HE := Lib.hid he
  have c0 := (show World.cell? _ ⟨t, 0, none⟩ = some (.int .i64 q.op) from Blk.is hR 0 rfl)
  rw [hop] at c0
  have HH := Lib.hid h
  have HR := Lib.hid (show Blk w t 60 (rqC q) from hR)
  have HW := Lib.hid (Two.refl w g t)
  clear h hR he hop
  obtain ⟨p, hp⟩ : ∃ p, p = (q, s) := ⟨_, rfl⟩
  have HH := Lib.hid (show Rd w g p.2 from by rw [hp]; exact HH.out)
  have HR := Lib.hid (show Blk w t 60 (rqC p.1) from by rw [hp]; exact HR.out)
  have HP := Lib.hid hp
  clear hp
  go_enter Tryz.func64, Tryz.ntmps64
  go_wp2_with fail
  go_region_held3 (fun _ => True) (trivial) (first | (go_at_call 99; refine (into_new _ g p.2 (by exact HH.out.drew) t 60 (rqC p.1) (by exact HR.out.drew) hgt [20, 21] (by simp) _ (by rfl) _ (by rfl) (by decide) _ (by rfl) (by simp)).mono ?_; rintro e w1 ⟨rfl, h1, h2, h3⟩; rw [intoS_p LAx] at h1 h2; rw [intoS_p LAy] at h1 h2; have HH := Lib.hid (show Rd _ g (nx1 LAy (nx1 LAx (p))).2 from h1); have HR := Lib.hid (show Blk _ t 60 (rqC (nx1 LAy (nx1 LAx (p))).1) from h2); have HW := Lib.hid (HW.out.drew.trans h3); clear h1 h2 h3; obtain ⟨p1, hp⟩ : ∃ p1, p1 = nx1 LAy (nx1 LAx (p)) := ⟨_, rfl⟩; rw [← hp] at HH HR; have HP1 := Lib.hid hp; clear hp))
  all_goals
    go_wp2_with fail
    refine bodyPost_ret (results_none rfl _ _ _) rfl ?_
    have hfin : rF (q, s) = p1 := by rw [HE.out, HP1.out, HP.out]
    rw [hfin]
    exact ⟨rfl, HH.out, HR.out, HW.out⟩

set_option maxRecDepth 100000 in
set_option maxHeartbeats 4000000 in
theorem rfields_15 (w : World) (g : Nat) (s : RSt) (h : Rd w g s) (t : Nat) (q : Req) (hR : Rq w t q) (hgt : g < t) (hop : q.op = 15) :
    Calls Tryz.prog 64 #[.pointer (some ⟨g, 0, none⟩), .pointer (some ⟨t, 0, none⟩)] w (QPut w g t (rF (q, s))) := by
  have he : rF (q, s) = nx1 LY1 (nx1 LX1 (nx1 LY0 (nx1 LX0 ((q, s))))) := by simp [rF, hop]
  have HE := Lib.hid he
  have c0 := (show World.cell? _ ⟨t, 0, none⟩ = some (.int .i64 q.op) from Blk.is hR 0 rfl)
  rw [hop] at c0
  have HH := Lib.hid h
  have HR := Lib.hid (show Blk w t 60 (rqC q) from hR)
  have HW := Lib.hid (Two.refl w g t)
  clear h hR he hop
  obtain ⟨p, hp⟩ : ∃ p, p = (q, s) := ⟨_, rfl⟩
  have HH := Lib.hid (show Rd w g p.2 from by rw [hp]; exact HH.out)
  have HR := Lib.hid (show Blk w t 60 (rqC p.1) from by rw [hp]; exact HR.out)
  have HP := Lib.hid hp
  clear hp
  go_enter Tryz.func64, Tryz.ntmps64
  go_wp2_with fail
  refine (rect_rd _ g p.2 HH.out t 60 (rqC p.1) HR.out hgt 12 (by simp) (by decide)).mono ?_
  rintro e w1 ⟨rfl, h1, h2, h3⟩
  rw [intoS_p LX0] at h1 h2
  rw [intoS_p LY0] at h1 h2
  rw [intoS_p LX1] at h1 h2
  rw [intoS_p LY1] at h1 h2
  have HH := Lib.hid (show Rd _ g (nx1 LY1 (nx1 LX1 (nx1 LY0 (nx1 LX0 (p))))).2 from h1)
  have HR := Lib.hid (show Blk _ t 60 (rqC (nx1 LY1 (nx1 LX1 (nx1 LY0 (nx1 LX0 (p))))).1) from h2)
  have HW := Lib.hid (HW.out.trans h3)
  clear h1 h2 h3
  obtain ⟨p1, hp⟩ : ∃ p1, p1 = nx1 LY1 (nx1 LX1 (nx1 LY0 (nx1 LX0 (p)))) := ⟨_, rfl⟩
  rw [← hp] at HH HR
  have HP1 := Lib.hid hp
  clear hp
  go_wp2_with fail
  refine bodyPost_ret (results_none rfl _ _ _) rfl ?_
  have hfin : rF (q, s) = p1 := by rw [HE.out, HP1.out, HP.out]
  rw [hfin]
  exact ⟨rfl, HH.out, HR.out, HW.out⟩

set_option maxRecDepth 100000 in
set_option maxHeartbeats 4000000 in
theorem rfields_16 (w : World) (g : Nat) (s : RSt) (h : Rd w g s) (t : Nat) (q : Req) (hR : Rq w t q) (hgt : g < t) (hop : q.op = 16) :
    Calls Tryz.prog 64 #[.pointer (some ⟨g, 0, none⟩), .pointer (some ⟨t, 0, none⟩)] w (QPut w g t (rF (q, s))) := by
  have he : rF (q, s) = nx1 LAy (nx1 LAx ((q, s))) := by simp [rF, hop]
  have HE := Lib.hid he
  have c0 := (show World.cell? _ ⟨t, 0, none⟩ = some (.int .i64 q.op) from Blk.is hR 0 rfl)
  rw [hop] at c0
  have HH := Lib.hid h
  have HR := Lib.hid (show Blk w t 60 (rqC q) from hR)
  have HW := Lib.hid (Two.refl w g t)
  clear h hR he hop
  obtain ⟨p, hp⟩ : ∃ p, p = (q, s) := ⟨_, rfl⟩
  have HH := Lib.hid (show Rd w g p.2 from by rw [hp]; exact HH.out)
  have HR := Lib.hid (show Blk w t 60 (rqC p.1) from by rw [hp]; exact HR.out)
  have HP := Lib.hid hp
  clear hp
  go_enter Tryz.func64, Tryz.ntmps64
  go_wp2_with fail
  go_region_held3 (fun _ => True) (trivial) (first | (go_at_call 99; refine (into_new _ g p.2 (by exact HH.out.drew) t 60 (rqC p.1) (by exact HR.out.drew) hgt [20, 21] (by simp) _ (by rfl) _ (by rfl) (by decide) _ (by rfl) (by simp)).mono ?_; rintro e w1 ⟨rfl, h1, h2, h3⟩; rw [intoS_p LAx] at h1 h2; rw [intoS_p LAy] at h1 h2; have HH := Lib.hid (show Rd _ g (nx1 LAy (nx1 LAx (p))).2 from h1); have HR := Lib.hid (show Blk _ t 60 (rqC (nx1 LAy (nx1 LAx (p))).1) from h2); have HW := Lib.hid (HW.out.drew.trans h3); clear h1 h2 h3; obtain ⟨p1, hp⟩ : ∃ p1, p1 = nx1 LAy (nx1 LAx (p)) := ⟨_, rfl⟩; rw [← hp] at HH HR; have HP1 := Lib.hid hp; clear hp))
  all_goals
    go_wp2_with fail
    refine bodyPost_ret (results_none rfl _ _ _) rfl ?_
    have hfin : rF (q, s) = p1 := by rw [HE.out, HP1.out, HP.out]
    rw [hfin]
    exact ⟨rfl, HH.out, HR.out, HW.out⟩

set_option maxRecDepth 100000 in
set_option maxHeartbeats 4000000 in
theorem rfields_17 (w : World) (g : Nat) (s : RSt) (h : Rd w g s) (t : Nat) (q : Req) (hR : Rq w t q) (hgt : g < t) (hop : q.op = 17) :
    Calls Tryz.prog 64 #[.pointer (some ⟨g, 0, none⟩), .pointer (some ⟨t, 0, none⟩)] w (QPut w g t (rF (q, s))) := by
  have he : rF (q, s) = nx1 LFrm ((q, s)) := by simp [rF, hop]
  have HE := Lib.hid he
  have c0 := (show World.cell? _ ⟨t, 0, none⟩ = some (.int .i64 q.op) from Blk.is hR 0 rfl)
  rw [hop] at c0
  have HH := Lib.hid h
  have HR := Lib.hid (show Blk w t 60 (rqC q) from hR)
  have HW := Lib.hid (Two.refl w g t)
  clear h hR he hop
  obtain ⟨p, hp⟩ : ∃ p, p = (q, s) := ⟨_, rfl⟩
  have HH := Lib.hid (show Rd w g p.2 from by rw [hp]; exact HH.out)
  have HR := Lib.hid (show Blk w t 60 (rqC p.1) from by rw [hp]; exact HR.out)
  have HP := Lib.hid hp
  clear hp
  go_enter Tryz.func64, Tryz.ntmps64
  go_wp2_with fail
  refine (into_new _ g p.2 HH.out t 60 (rqC p.1) HR.out hgt [23] (by simp) _ rfl _ rfl (by decide) _ rfl (by simp)).mono ?_
  rintro e w1 ⟨rfl, h1, h2, h3⟩
  rw [intoS_p LFrm] at h1 h2
  have HH := Lib.hid (show Rd _ g (nx1 LFrm (p)).2 from h1)
  have HR := Lib.hid (show Blk _ t 60 (rqC (nx1 LFrm (p)).1) from h2)
  have HW := Lib.hid (HW.out.trans h3)
  clear h1 h2 h3
  obtain ⟨p1, hp⟩ : ∃ p1, p1 = nx1 LFrm (p) := ⟨_, rfl⟩
  rw [← hp] at HH HR
  have HP1 := Lib.hid hp
  clear hp
  go_wp2_with fail
  refine bodyPost_ret (results_none rfl _ _ _) rfl ?_
  have hfin : rF (q, s) = p1 := by rw [HE.out, HP1.out, HP.out]
  rw [hfin]
  exact ⟨rfl, HH.out, HR.out, HW.out⟩

set_option maxRecDepth 100000 in
set_option maxHeartbeats 4000000 in
theorem rfields_19 (w : World) (g : Nat) (s : RSt) (h : Rd w g s) (t : Nat) (q : Req) (hR : Rq w t q) (hgt : g < t) (hop : q.op = 19) :
    Calls Tryz.prog 64 #[.pointer (some ⟨g, 0, none⟩), .pointer (some ⟨t, 0, none⟩)] w (QPut w g t (rF (q, s))) := by
  have he : rF (q, s) = nx1 LQuota (nx1 LWhom ((q, s))) := by simp [rF, hop]
  have HE := Lib.hid he
  have c0 := (show World.cell? _ ⟨t, 0, none⟩ = some (.int .i64 q.op) from Blk.is hR 0 rfl)
  rw [hop] at c0
  have HH := Lib.hid h
  have HR := Lib.hid (show Blk w t 60 (rqC q) from hR)
  have HW := Lib.hid (Two.refl w g t)
  clear h hR he hop
  obtain ⟨p, hp⟩ : ∃ p, p = (q, s) := ⟨_, rfl⟩
  have HH := Lib.hid (show Rd w g p.2 from by rw [hp]; exact HH.out)
  have HR := Lib.hid (show Blk w t 60 (rqC p.1) from by rw [hp]; exact HR.out)
  have HP := Lib.hid hp
  clear hp
  go_enter Tryz.func64, Tryz.ntmps64
  go_wp2_with fail
  go_region_held3 (fun _ => True) (trivial) (first | (go_at_call 99; refine (into_new _ g p.2 (by exact HH.out.drew) t 60 (rqC p.1) (by exact HR.out.drew) hgt [5, 8] (by simp) _ (by rfl) _ (by rfl) (by decide) _ (by rfl) (by simp)).mono ?_; rintro e w1 ⟨rfl, h1, h2, h3⟩; rw [intoS_p LWhom] at h1 h2; rw [intoS_p LQuota] at h1 h2; have HH := Lib.hid (show Rd _ g (nx1 LQuota (nx1 LWhom (p))).2 from h1); have HR := Lib.hid (show Blk _ t 60 (rqC (nx1 LQuota (nx1 LWhom (p))).1) from h2); have HW := Lib.hid (HW.out.drew.trans h3); clear h1 h2 h3; obtain ⟨p1, hp⟩ : ∃ p1, p1 = nx1 LQuota (nx1 LWhom (p)) := ⟨_, rfl⟩; rw [← hp] at HH HR; have HP1 := Lib.hid hp; clear hp))
  all_goals
    go_wp2_with fail
    refine bodyPost_ret (results_none rfl _ _ _) rfl ?_
    have hfin : rF (q, s) = p1 := by rw [HE.out, HP1.out, HP.out]
    rw [hfin]
    exact ⟨rfl, HH.out, HR.out, HW.out⟩

set_option maxRecDepth 100000 in
set_option maxHeartbeats 4000000 in
theorem rfields_0 (w : World) (g : Nat) (s : RSt) (h : Rd w g s) (t : Nat) (q : Req) (hR : Rq w t q) (hop : q.op = 0) :
    Calls Tryz.prog 64 #[.pointer (some ⟨g, 0, none⟩), .pointer (some ⟨t, 0, none⟩)] w (QPut w g t (rF (q, s))) := by
  have he : rF (q, s) = (q, s) := by simp [rF, hop]
  have HE := Lib.hid he
  have c0 := (show World.cell? _ ⟨t, 0, none⟩ = some (.int .i64 q.op) from Blk.is hR 0 rfl)
  rw [hop] at c0
  have HH := Lib.hid h
  have HR := Lib.hid (show Blk w t 60 (rqC q) from hR)
  have HW := Lib.hid (Two.refl w g t)
  clear h hR he hop
  obtain ⟨p, hp⟩ : ∃ p, p = (q, s) := ⟨_, rfl⟩
  have HH := Lib.hid (show Rd w g p.2 from by rw [hp]; exact HH.out)
  have HR := Lib.hid (show Blk w t 60 (rqC p.1) from by rw [hp]; exact HR.out)
  have HP := Lib.hid hp
  clear hp
  go_enter Tryz.func64, Tryz.ntmps64
  go_wp2_with fail
  refine bodyPost_ret (results_none rfl _ _ _) rfl ?_
  have hfin : rF (q, s) = p := by rw [HE.out, HP.out]
  rw [hfin]
  exact ⟨rfl, HH.out, HR.out, HW.out⟩

set_option maxRecDepth 100000 in
set_option maxHeartbeats 4000000 in
theorem rfields_9 (w : World) (g : Nat) (s : RSt) (h : Rd w g s) (t : Nat) (q : Req) (hR : Rq w t q) (hop : q.op = 9) :
    Calls Tryz.prog 64 #[.pointer (some ⟨g, 0, none⟩), .pointer (some ⟨t, 0, none⟩)] w (QPut w g t (rF (q, s))) := by
  have he : rF (q, s) = (q, s) := by simp [rF, hop]
  have HE := Lib.hid he
  have c0 := (show World.cell? _ ⟨t, 0, none⟩ = some (.int .i64 q.op) from Blk.is hR 0 rfl)
  rw [hop] at c0
  have HH := Lib.hid h
  have HR := Lib.hid (show Blk w t 60 (rqC q) from hR)
  have HW := Lib.hid (Two.refl w g t)
  clear h hR he hop
  obtain ⟨p, hp⟩ : ∃ p, p = (q, s) := ⟨_, rfl⟩
  have HH := Lib.hid (show Rd w g p.2 from by rw [hp]; exact HH.out)
  have HR := Lib.hid (show Blk w t 60 (rqC p.1) from by rw [hp]; exact HR.out)
  have HP := Lib.hid hp
  clear hp
  go_enter Tryz.func64, Tryz.ntmps64
  go_wp2_with fail
  refine bodyPost_ret (results_none rfl _ _ _) rfl ?_
  have hfin : rF (q, s) = p := by rw [HE.out, HP.out]
  rw [hfin]
  exact ⟨rfl, HH.out, HR.out, HW.out⟩

set_option maxRecDepth 100000 in
set_option maxHeartbeats 4000000 in
theorem rfields_10 (w : World) (g : Nat) (s : RSt) (h : Rd w g s) (t : Nat) (q : Req) (hR : Rq w t q) (hop : q.op = 10) :
    Calls Tryz.prog 64 #[.pointer (some ⟨g, 0, none⟩), .pointer (some ⟨t, 0, none⟩)] w (QPut w g t (rF (q, s))) := by
  have he : rF (q, s) = (q, s) := by simp [rF, hop]
  have HE := Lib.hid he
  have c0 := (show World.cell? _ ⟨t, 0, none⟩ = some (.int .i64 q.op) from Blk.is hR 0 rfl)
  rw [hop] at c0
  have HH := Lib.hid h
  have HR := Lib.hid (show Blk w t 60 (rqC q) from hR)
  have HW := Lib.hid (Two.refl w g t)
  clear h hR he hop
  obtain ⟨p, hp⟩ : ∃ p, p = (q, s) := ⟨_, rfl⟩
  have HH := Lib.hid (show Rd w g p.2 from by rw [hp]; exact HH.out)
  have HR := Lib.hid (show Blk w t 60 (rqC p.1) from by rw [hp]; exact HR.out)
  have HP := Lib.hid hp
  clear hp
  go_enter Tryz.func64, Tryz.ntmps64
  go_wp2_with fail
  refine bodyPost_ret (results_none rfl _ _ _) rfl ?_
  have hfin : rF (q, s) = p := by rw [HE.out, HP.out]
  rw [hfin]
  exact ⟨rfl, HH.out, HR.out, HW.out⟩

set_option maxRecDepth 100000 in
set_option maxHeartbeats 4000000 in
theorem rfields_11 (w : World) (g : Nat) (s : RSt) (h : Rd w g s) (t : Nat) (q : Req) (hR : Rq w t q) (hop : q.op = 11) :
    Calls Tryz.prog 64 #[.pointer (some ⟨g, 0, none⟩), .pointer (some ⟨t, 0, none⟩)] w (QPut w g t (rF (q, s))) := by
  have he : rF (q, s) = (q, s) := by simp [rF, hop]
  have HE := Lib.hid he
  have c0 := (show World.cell? _ ⟨t, 0, none⟩ = some (.int .i64 q.op) from Blk.is hR 0 rfl)
  rw [hop] at c0
  have HH := Lib.hid h
  have HR := Lib.hid (show Blk w t 60 (rqC q) from hR)
  have HW := Lib.hid (Two.refl w g t)
  clear h hR he hop
  obtain ⟨p, hp⟩ : ∃ p, p = (q, s) := ⟨_, rfl⟩
  have HH := Lib.hid (show Rd w g p.2 from by rw [hp]; exact HH.out)
  have HR := Lib.hid (show Blk w t 60 (rqC p.1) from by rw [hp]; exact HR.out)
  have HP := Lib.hid hp
  clear hp
  go_enter Tryz.func64, Tryz.ntmps64
  go_wp2_with fail
  refine bodyPost_ret (results_none rfl _ _ _) rfl ?_
  have hfin : rF (q, s) = p := by rw [HE.out, HP.out]
  rw [hfin]
  exact ⟨rfl, HH.out, HR.out, HW.out⟩

set_option maxRecDepth 100000 in
set_option maxHeartbeats 4000000 in
theorem rfields_12 (w : World) (g : Nat) (s : RSt) (h : Rd w g s) (t : Nat) (q : Req) (hR : Rq w t q) (hop : q.op = 12) :
    Calls Tryz.prog 64 #[.pointer (some ⟨g, 0, none⟩), .pointer (some ⟨t, 0, none⟩)] w (QPut w g t (rF (q, s))) := by
  have he : rF (q, s) = (q, s) := by simp [rF, hop]
  have HE := Lib.hid he
  have c0 := (show World.cell? _ ⟨t, 0, none⟩ = some (.int .i64 q.op) from Blk.is hR 0 rfl)
  rw [hop] at c0
  have HH := Lib.hid h
  have HR := Lib.hid (show Blk w t 60 (rqC q) from hR)
  have HW := Lib.hid (Two.refl w g t)
  clear h hR he hop
  obtain ⟨p, hp⟩ : ∃ p, p = (q, s) := ⟨_, rfl⟩
  have HH := Lib.hid (show Rd w g p.2 from by rw [hp]; exact HH.out)
  have HR := Lib.hid (show Blk w t 60 (rqC p.1) from by rw [hp]; exact HR.out)
  have HP := Lib.hid hp
  clear hp
  go_enter Tryz.func64, Tryz.ntmps64
  go_wp2_with fail
  refine bodyPost_ret (results_none rfl _ _ _) rfl ?_
  have hfin : rF (q, s) = p := by rw [HE.out, HP.out]
  rw [hfin]
  exact ⟨rfl, HH.out, HR.out, HW.out⟩

set_option maxRecDepth 100000 in
set_option maxHeartbeats 4000000 in
theorem rfields_18 (w : World) (g : Nat) (s : RSt) (h : Rd w g s) (t : Nat) (q : Req) (hR : Rq w t q) (hop : q.op = 18) :
    Calls Tryz.prog 64 #[.pointer (some ⟨g, 0, none⟩), .pointer (some ⟨t, 0, none⟩)] w (QPut w g t (rF (q, s))) := by
  have he : rF (q, s) = (q, s) := by simp [rF, hop]
  have HE := Lib.hid he
  have c0 := (show World.cell? _ ⟨t, 0, none⟩ = some (.int .i64 q.op) from Blk.is hR 0 rfl)
  rw [hop] at c0
  have HH := Lib.hid h
  have HR := Lib.hid (show Blk w t 60 (rqC q) from hR)
  have HW := Lib.hid (Two.refl w g t)
  clear h hR he hop
  obtain ⟨p, hp⟩ : ∃ p, p = (q, s) := ⟨_, rfl⟩
  have HH := Lib.hid (show Rd w g p.2 from by rw [hp]; exact HH.out)
  have HR := Lib.hid (show Blk w t 60 (rqC p.1) from by rw [hp]; exact HR.out)
  have HP := Lib.hid hp
  clear hp
  go_enter Tryz.func64, Tryz.ntmps64
  go_wp2_with fail
  refine bodyPost_ret (results_none rfl _ _ _) rfl ?_
  have hfin : rF (q, s) = p := by rw [HE.out, HP.out]
  rw [hfin]
  exact ⟨rfl, HH.out, HR.out, HW.out⟩

theorem rfields_rd (w : World) (g : Nat) (s : RSt) (h : Rd w g s) (t : Nat) (q : Req) (hR : Rq w t q) (hgt : g < t) (hop : 0 ≤ q.op ∧ q.op ≤ 19) :
    Calls Tryz.prog 64 #[.pointer (some ⟨g, 0, none⟩), .pointer (some ⟨t, 0, none⟩)] w (QPut w g t (rF (q, s))) := by
  have hc : q.op = 0 ∨ isOp q.op = true := by
    simp only [isOp, Bool.and_eq_true, decide_eq_true_eq]
    omega
  rcases hc with e | e
  · exact rfields_0 w g s h t q hR e
  rcases isOp_cases e with e | e | e | e | e | e | e | e | e | e | e | e | e | e | e | e | e | e | e
  · exact rfields_1 w g s h t q hR hgt e
  · exact rfields_2 w g s h t q hR hgt e
  · exact rfields_3 w g s h t q hR hgt e
  · exact rfields_4 w g s h t q hR hgt e
  · exact rfields_5 w g s h t q hR hgt e
  · exact rfields_6 w g s h t q hR hgt e
  · exact rfields_7 w g s h t q hR hgt e
  · exact rfields_8 w g s h t q hR hgt e
  · exact rfields_9 w g s h t q hR e
  · exact rfields_10 w g s h t q hR e
  · exact rfields_11 w g s h t q hR e
  · exact rfields_12 w g s h t q hR e
  · exact rfields_13 w g s h t q hR hgt e
  · exact rfields_14 w g s h t q hR hgt e
  · exact rfields_15 w g s h t q hR hgt e
  · exact rfields_16 w g s h t q hR hgt e
  · exact rfields_17 w g s h t q hR hgt e
  · exact rfields_18 w g s h t q hR e
  · exact rfields_19 w g s h t q hR hgt e

/-- What is read fits: its texts are no longer than the words. -/
structure RFit (p : Req × RSt) (n : Nat) : Prop where
  ok : p.1.ok
  tx : p.1.txt.length ≤ n
  ws : ∀ x ∈ p.2.1, x.length ≤ n
theorem RFit.n {off n : Nat} {p : Req × RSt} (L : Lens off) (hL : ∀ q v, (L.set q v).secret = q.secret ∧ (L.set q v).other = q.other ∧ (L.set q v).area = q.area ∧ (L.set q v).txt = q.txt) (h : RFit p n) : RFit (nx1 L p) n := by
  obtain ⟨e1, e2, e3, e4⟩ := hL p.1 ((rNum p.2).1 : Nat)
  refine ⟨?_, ?_, ?_⟩
  · unfold nx1 Req.ok
    simp only [e1, e2, e3]
    exact h.ok
  · unfold nx1
    simp only [e4]
    exact h.tx
  · intro x hx
    have hw := (rW_len p.2 n h.ws).2
    unfold nx1 rNum rLong at hx
    simp only at hx
    split at hx <;> exact hw x hx
theorem RFit.q {n : Nat} {p : Req × RSt} (h : RFit p n) : RFit (qx1 p) n :=
  ⟨h.ok, Nat.le_trans (unq_len _) (rW_len p.2 n h.ws).1, (rW_len p.2 n h.ws).2⟩
theorem RFit.h {n : Nat} {p : Req × RSt} (h : RFit p n) : RFit (hx1 p) n :=
  ⟨⟨h.ok.1, Nat.lt_of_lt_of_eq (rhex_lt _) (by decide), h.ok.2.2⟩, h.tx, (rW_len p.2 n h.ws).2⟩
theorem RFit.t {n : Nat} {p : Req × RSt} (h : RFit p n) : RFit (tx1 p) n :=
  ⟨⟨h.ok.1, h.ok.2.1, Nat.lt_of_lt_of_eq (par_lt _) (by decide)⟩, h.tx, (rW_len p.2 n h.ws).2⟩
theorem ite_F {P : Req × RSt → Prop} {c : Prop} [Decidable c] {a b : Req × RSt} (h1 : P a) (h2 : P b) : P (if c then a else b) := by
  split
  · exact h1
  · exact h2
theorem rF_fit {p : Req × RSt} {n : Nat} (h : RFit p n) : RFit (rF p) n := by
  unfold rF
  refine ite_F (P := fun z => RFit z n) (.n LQuota (fun _ _ => ⟨rfl, rfl, rfl, rfl⟩) (.n LTier (fun _ _ => ⟨rfl, rfl, rfl, rfl⟩) (.n LRole (fun _ _ => ⟨rfl, rfl, rfl, rfl⟩) (.n LWhom (fun _ _ => ⟨rfl, rfl, rfl, rfl⟩) h)))) ?_
  refine ite_F (P := fun z => RFit z n) (.n LWhom (fun _ _ => ⟨rfl, rfl, rfl, rfl⟩) h) ?_
  refine ite_F (P := fun z => RFit z n) (.q h) ?_
  refine ite_F (P := fun z => RFit z n) (.n LTil (fun _ _ => ⟨rfl, rfl, rfl, rfl⟩) (.n LRights (fun _ _ => ⟨rfl, rfl, rfl, rfl⟩) (.n LWhom (fun _ _ => ⟨rfl, rfl, rfl, rfl⟩) h))) ?_
  refine ite_F (P := fun z => RFit z n) (.n LTil (fun _ _ => ⟨rfl, rfl, rfl, rfl⟩) (.n LY1 (fun _ _ => ⟨rfl, rfl, rfl, rfl⟩) (.n LX1 (fun _ _ => ⟨rfl, rfl, rfl, rfl⟩) (.n LY0 (fun _ _ => ⟨rfl, rfl, rfl, rfl⟩) (.n LX0 (fun _ _ => ⟨rfl, rfl, rfl, rfl⟩) (.n LZoom (fun _ _ => ⟨rfl, rfl, rfl, rfl⟩) (.n LRights (fun _ _ => ⟨rfl, rfl, rfl, rfl⟩) h))))))) ?_
  refine ite_F (P := fun z => RFit z n) (.h h) ?_
  refine ite_F (P := fun z => RFit z n) (.t (.n LPk (fun _ _ => ⟨rfl, rfl, rfl, rfl⟩) h)) ?_
  refine ite_F (P := fun z => RFit z n) (.n LLabel (fun _ _ => ⟨rfl, rfl, rfl, rfl⟩) (.n LAy (fun _ _ => ⟨rfl, rfl, rfl, rfl⟩) (.n LAx (fun _ _ => ⟨rfl, rfl, rfl, rfl⟩) h))) ?_
  refine ite_F (P := fun z => RFit z n) (.n LY1 (fun _ _ => ⟨rfl, rfl, rfl, rfl⟩) (.n LX1 (fun _ _ => ⟨rfl, rfl, rfl, rfl⟩) (.n LY0 (fun _ _ => ⟨rfl, rfl, rfl, rfl⟩) (.n LX0 (fun _ _ => ⟨rfl, rfl, rfl, rfl⟩) h)))) ?_
  refine ite_F (P := fun z => RFit z n) (.n LAy (fun _ _ => ⟨rfl, rfl, rfl, rfl⟩) (.n LAx (fun _ _ => ⟨rfl, rfl, rfl, rfl⟩) h)) ?_
  refine ite_F (P := fun z => RFit z n) (.n LY1 (fun _ _ => ⟨rfl, rfl, rfl, rfl⟩) (.n LX1 (fun _ _ => ⟨rfl, rfl, rfl, rfl⟩) (.n LY0 (fun _ _ => ⟨rfl, rfl, rfl, rfl⟩) (.n LX0 (fun _ _ => ⟨rfl, rfl, rfl, rfl⟩) h)))) ?_
  refine ite_F (P := fun z => RFit z n) (.n LAy (fun _ _ => ⟨rfl, rfl, rfl, rfl⟩) (.n LAx (fun _ _ => ⟨rfl, rfl, rfl, rfl⟩) h)) ?_
  refine ite_F (P := fun z => RFit z n) (.n LFrm (fun _ _ => ⟨rfl, rfl, rfl, rfl⟩) h) ?_
  refine ite_F (P := fun z => RFit z n) (.n LQuota (fun _ _ => ⟨rfl, rfl, rfl, rfl⟩) (.n LWhom (fun _ _ => ⟨rfl, rfl, rfl, rfl⟩) h)) ?_
  exact h
end Go.Proofs.YtldjgpnbkbmgoaaGreatDoor
