/-
  The program's encode, Encode and Right. Conditions: numbers of eight bytes are so; the text leaves room for thirteen bytes.
-/
import Derived.Test.YtldjgpnbkbmgoaaGreatDoorRefE
namespace Go.Proofs.YtldjgpnbkbmgoaaGreatDoor
open Go.RowKit Go.Lib
attribute [local go_sem ↓] load_req stop_req

theorem req_iff (a b : Req) : (a.op = b.op ∧ a.tenant = b.tenant ∧ a.user = b.user ∧ a.secret = b.secret ∧ a.m = b.m ∧ a.whom = b.whom ∧ a.role = b.role ∧ a.tier = b.tier ∧ a.quota = b.quota ∧ a.txt = b.txt ∧ a.rights = b.rights ∧ a.zoom = b.zoom ∧ a.x0 = b.x0 ∧ a.y0 = b.y0 ∧ a.x1 = b.x1 ∧ a.y1 = b.y1 ∧ a.til = b.til ∧ a.other = b.other ∧ a.pk = b.pk ∧ a.area = b.area ∧ a.ax = b.ax ∧ a.ay = b.ay ∧ a.label = b.label ∧ a.frm = b.frm) ↔ a = b := by
  constructor
  · intro e
    obtain ⟨e0, e1, e2, e3, e4, e5, e6, e7, e8, e9, e10, e11, e12, e13, e14, e15, e16, e17, e18, e19, e20, e21, e22, e23⟩ := e
    rcases a with ⟨a0, a1, a2, a3, a4, a5, a6, a7, a8, a9, a10, a11, a12, a13, a14, a15, a16, a17, a18, a19, a20, a21, a22, a23⟩
    rcases b with ⟨b0, b1, b2, b3, b4, b5, b6, b7, b8, b9, b10, b11, b12, b13, b14, b15, b16, b17, b18, b19, b20, b21, b22, b23⟩
    simp only at e0 e1 e2 e3 e4 e5 e6 e7 e8 e9 e10 e11 e12 e13 e14 e15 e16 e17 e18 e19 e20 e21 e22 e23
    subst e0 e1 e2 e3 e4 e5 e6 e7 e8 e9 e10 e11 e12 e13 e14 e15 e16 e17 e18 e19 e20 e21 e22 e23
    rfl
  · intro e
    subst e
    exact ⟨rfl, rfl, rfl, rfl, rfl, rfl, rfl, rfl, rfl, rfl, rfl, rfl, rfl, rfl, rfl, rfl, rfl, rfl, rfl, rfl, rfl, rfl, rfl, rfl⟩
instance : DecidableEq Req := fun a b => decidable_of_iff _ (req_iff a b)
theorem if_else_eq {α : Type} {c : Prop} [Decidable c] {a b : α} (h : c → a = b) : (if c then a else b) = b := by
  split
  · rename_i hc
    exact h hc
  · rfl
def reqEq (a b : Req) : Bool := decide (a = b)
set_option maxRecDepth 100000 in
set_option maxHeartbeats 4000000 in
@[go_sem high] theorem eqReq (x y : Req) (w : World) : (Op.equalIn 10000 60 (.agg (rqC x)) (.agg (rqC y))).run Tryz.prog w = .ok (reqEq x y) w := by
  have hS : Tryz.prog.underlying 60 = some (.struct (Tryz.prog.fieldsOf 60)) := by kernel_rfl
  have hp : Tryz.prog.stoodInHeld 60 = false := by kernel_rfl
  rw [show (10000 : Nat) = 9999 + 1 from rfl, run_equalIn_agg w 9999 60 _ _ hS hp]
  simp only [Program.fieldsOf, Tryz.underlying60]
  go_simp
  by_cases h : x = y
  · subst h
    simp [reqEq]
  · have hf : reqEq x y = false := decide_eq_false h
    rw [hf]
    have hx := fun e => h ((req_iff x y).1 e)
    clear hf h
    refine if_else_eq fun e0 => ?_
    refine if_else_eq fun e1 => ?_
    refine if_else_eq fun e2 => ?_
    refine if_else_eq fun e3 => ?_
    refine if_else_eq fun e4 => ?_
    refine if_else_eq fun e5 => ?_
    refine if_else_eq fun e6 => ?_
    refine if_else_eq fun e7 => ?_
    refine if_else_eq fun e8 => ?_
    refine if_else_eq fun e9 => ?_
    refine if_else_eq fun e10 => ?_
    refine if_else_eq fun e11 => ?_
    refine if_else_eq fun e12 => ?_
    refine if_else_eq fun e13 => ?_
    refine if_else_eq fun e14 => ?_
    refine if_else_eq fun e15 => ?_
    refine if_else_eq fun e16 => ?_
    refine if_else_eq fun e17 => ?_
    refine if_else_eq fun e18 => ?_
    refine if_else_eq fun e19 => ?_
    refine if_else_eq fun e20 => ?_
    refine if_else_eq fun e21 => ?_
    refine if_else_eq fun e22 => ?_
    refine if_else_eq fun e23 => ?_
    exact absurd ⟨e0, e1, e2, (by omega), e4, e5, e6, e7, e8, e9, e10, e11, e12, e13, e14, e15, e16, (by omega), e18, (by omega), e20, e21, e22, e23⟩ hx
@[go_sem] theorem gdReq : Tryz.prog.eqGuardType Tryz.prog.depth 60 = false := by kernel_rfl

def encS (q : Req) : CS × Req := fieldsS (aheadS (⟨0, [], 0, false⟩, q))
def encL (q : Req) : List UInt8 := (encS q).1.l
def encBad (q : Req) : Bool := (encS q).1.bad
def encOk (q : Req) : Bool := !encBad q && reqEq (dec (encL q)).1 q && decide ((dec (encL q)).2 = 0)
def Req.fits (q : Req) : Prop := q.ok ∧ q.txt.length + 13 ≤ 140737488355328
def EPost (w : World) (ok bad : Bool) (l0 : List UInt8) (e : Ending) (w' : World) : Prop := ∃ v l, e = .returned (.tuple #[v, .bool ok]) ∧ Sl byC w' w'.heap.size v l ∧ (bad = true → l = []) ∧ (bad = false → l = l0) ∧ Below w.heap.size w w'

theorem still_all {P : Program} {id : Nat} {Q : Exit → Act → World → Prop} {a : Act} {w : World} {l : List Oper} (hm : P.follows .mixedOrders = true) (hB : Region.lexB .any l.toArray = true)
    (h : wpStill P l.toArray w.drew (fun a' => Q .normal a' w.drew) l a) : (Code.region id l.toArray true).wp P Q a w := wp_region_still_lit hm hB h

/-- What a step keeps: the mode, and what is written. -/
def St (p r : CS × Req) : Prop := r.1.m = p.1.m ∧ (p.1.m = 0 → r.2 = p.2)
theorem St.refl (p : CS × Req) : St p p := ⟨rfl, fun _ => rfl⟩
theorem St.n {p r : CS × Req} {off : Nat} {L : Lens off} {k : Nat} {most : Int} (h : St p r) : St p (nS L k most r) := ⟨by rw [nS_md]; exact h.1, fun e => by rw [nS_wr (by rw [h.1]; exact e)]; exact h.2 e⟩
theorem St.l {p r : CS × Req} {off : Nat} {L : LensU off} (h : St p r) : St p (lS L r) := ⟨by rw [lS_md]; exact h.1, fun e => by rw [lS_wr (by rw [h.1]; exact e)]; exact h.2 e⟩
theorem st_own (p : CS × Req) : St p (ownS p) := by
  unfold ownS boxS pointS
  repeat' split
  all_goals
    repeat first
      | exact St.refl p
      | apply St.n
      | apply St.l

theorem ahead_wr (q : Req) (b : Nat) : (aheadS (⟨0, [], b, false⟩, q)).2 = q := by
  unfold aheadS
  rw [nS_wr (by simp only [nS_md, lS_md]), lS_wr (by simp only [nS_md]), nS_wr (by simp only [nS_md]), nS_wr (by simp only [nS_md]), nS_wr rfl]
theorem nS_llen {off : Nat} {L : Lens off} {k : Nat} {most : Int} {p : CS × Req} (h : p.1.m = 0) : (nS L k most p).1.l.length ≤ p.1.l.length + k := by
  unfold nS
  rw [if_pos h]
  split
  · simp
  · simp [toBE_len]
theorem lS_llen {off : Nat} {L : LensU off} {p : CS × Req} (h : p.1.m = 0) : (lS L p).1.l.length ≤ p.1.l.length + 8 := by
  unfold lS
  rw [if_pos h]
  simp [toBE_len]
theorem ahead_llen (q : Req) : (aheadS (⟨0, [], 0, false⟩, q)).1.l.length ≤ 13 := by
  unfold aheadS
  have h1 := @nS_llen _ LOp 1 255 (⟨0, [], 0, false⟩, q) rfl
  have h2 := @nS_llen _ LTenant 1 255 (nS LOp 1 255 (⟨0, [], 0, false⟩, q)) (by simp only [nS_md])
  have h3 := @nS_llen _ LUser 2 65535 (nS LTenant 1 255 (nS LOp 1 255 (⟨0, [], 0, false⟩, q))) (by simp only [nS_md])
  have h4 := @lS_llen _ LSecret (nS LUser 2 65535 (nS LTenant 1 255 (nS LOp 1 255 (⟨0, [], 0, false⟩, q)))) (by simp only [nS_md])
  have h5 := @nS_llen _ LM 1 64 (lS LSecret (nS LUser 2 65535 (nS LTenant 1 255 (nS LOp 1 255 (⟨0, [], 0, false⟩, q))))) (by simp only [nS_md, lS_md])
  simp only [List.length_nil] at h1
  omega

set_option maxRecDepth 100000 in
set_option maxHeartbeats 4000000 in
theorem encode_ok (q : Req) (w : World) (hq : q.fits) : Calls Tryz.prog 78 #[.agg (rqC q)] w (EPost w (encOk q) (encBad q) (encL q)) := by
  obtain ⟨hok, hlen⟩ := hq
  have hb1 := Blk.new w 60 (rqC q)
  have hW1 := (Below.refl w.heap.size w).alloc (Nat.le_refl _) (.cells (rqC q) 60)
  have hz1 : (w.alloc (.cells (rqC q) 60)).heap.size = w.heap.size + 1 := by simp
  obtain ⟨w1, hst1⟩ : ∃ w1, w.alloc (.cells (rqC q) 60) = w1 := ⟨_, rfl⟩
  rw [hst1] at hb1 hW1 hz1
  have hc2 := Blk.new w1 164 (codA 0 0 none 0 0 false)
  have hb2 := hb1.alloc (.cells (codA 0 0 none 0 0 false) 164)
  have hW2 := hW1.alloc (by omega) (.cells (codA 0 0 none 0 0 false) 164)
  rw [hz1] at hc2
  obtain ⟨w2, hst2⟩ : ∃ w2, w1.alloc (.cells (codA 0 0 none 0 0 false) 164) = w2 := ⟨_, rfl⟩
  rw [hst2] at hc2 hb2 hW2
  have HC := Lib.hid (show Cod w2 w.heap.size (w.heap.size + 1) ⟨0, [], 0, false⟩ from ⟨none, 0, hc2, by omega, fun _ => Own.nil, fun e => absurd rfl e⟩)
  have HR := Lib.hid (show Rq w2 w.heap.size q from hb2)
  have HF := Lib.hid (show Fit (⟨0, [], 0, false⟩ : CS) (13 + fieldsN q.op) from ⟨.inl rfl, by simp, by have := fieldsN_le q.op; simp; omega, fun _ => by have := fieldsN_le q.op; simp; omega, fun e => by simp at e⟩)
  have HW := Lib.hid hW2
  have HOK := Lib.hid hok
  have HLEN := Lib.hid hlen
  have HWR := Lib.hid (ahead_wr q 0)
  have HLL := Lib.hid (ahead_llen q)
  have HES := Lib.hid (show encS q = fieldsS (aheadS (⟨0, [], 0, false⟩, q)) from rfl)
  have HEO := Lib.hid (show encOk q = (!(encS q).1.bad && reqEq (dec (encS q).1.l).1 q && decide ((dec (encS q).1.l).2 = 0)) from rfl)
  have HEB := Lib.hid (show encBad q = (encS q).1.bad from rfl)
  have HEL := Lib.hid (show encL q = (encS q).1.l from rfl)
  have HMD := Lib.hid (ahead_md (⟨0, [], 0, false⟩, q))
  clear hb1 hW1 hc2 hb2 hW2 hok hlen
  go_enter Tryz.func78, Tryz.ntmps78
  go_wp2_with fail
  refine (ahead_ok w2 w.heap.size (w.heap.size + 1) w.heap.size (⟨0, [], 0, false⟩, q) HC.out HR.out (by omega) (Nat.le_refl _) (13 + fieldsN q.op) HF.out (by omega) (fun _ => HOK.out)).mono ?_
  rintro e w3 ⟨rfl, hC, hR, hW⟩
  have HF3 := Lib.hid (fit_ahead (p := (⟨0, [], 0, false⟩, q)) HF.out rfl)
  generalize aheadS (⟨0, [], 0, false⟩, q) = p at *
  have HC := Lib.hid hC
  have HR := Lib.hid hR
  have HW := Lib.hid (HW.out.trans hW)
  clear hC hR hW hst1 hst2 hz1
  go_wp2_with fail
  refine (fields_ok w3 w.heap.size (w.heap.size + 1) w.heap.size p HC.out HR.out (by omega) (Nat.le_refl _) (by rw [HWR.out]; exact HF3.out) (fun _ => by rw [HWR.out]; exact HOK.out) (fun _ => by rw [HWR.out]; have h1 := HLEN.out; have h2 := HLL.out; omega)).mono ?_
  rintro e w4 ⟨rfl, hC, hR, hW⟩
  have HW := Lib.hid (HW.out.trans hW)
  have HM4 := Lib.hid (show (fieldsS p).1.m = 0 by unfold fieldsS; rw [(st_own _).1, ruleS_md]; exact HMD.out)
  have HR4 := Lib.hid (show Blk w4 w.heap.size 60 (rqC q) by have h := hR; rw [show (fieldsS p).2 = q by unfold fieldsS; rw [(st_own _).2 (by rw [ruleS_md]; exact HMD.out), ruleS_wr _ HMD.out]; exact HWR.out] at h; exact h)
  rw [← HES.out] at hC HM4
  generalize encS q = s at *
  obtain ⟨A, cap, hcb, -, hown, -⟩ := hC
  have HO := Lib.hid (hown HM4.out)
  rw [HM4.out] at hcb
  have HCB := Lib.hid hcb
  have e1 := hcb.is 1 rfl
  have e3 := hcb.is 3 rfl
  clear hcb hR hW hown
  cases hbad : s.1.bad
  · rw [hbad] at e3 HEO HEB
    clear hbad
    have hsl := HO.out.sl
    go_wp2_with fail
    refine (decode_ok s.1.l _ w4 hsl).mono ?_
    rintro e w5 ⟨rfl, hW5⟩
    have hz5 := hW5.size
    have HSL := Lib.hid ((hsl.below hW5).more hz5)
    have HW := Lib.hid (HW.out.trans (hW5.mono HW.out.size))
    have HR5 := Lib.hid (HR4.out.below hW5 HR4.out.lt)
    have HC5 := Lib.hid (HCB.out.below hW5 HCB.out.lt)
    have HN6 := Lib.hid (Blk.new w5 60 zeroC)
    have HR6 := Lib.hid (HR5.out.alloc (.cells zeroC 60))
    have HC6 := Lib.hid (HC5.out.alloc (.cells zeroC 60))
    have HW6 := Lib.hid (HW.out.alloc HW.out.size (.cells zeroC 60))
    have HS6 := Lib.hid (HSL.out.below ((Below.refl w5.heap.size w5).alloc (Nat.le_refl _) (.cells zeroC 60)))
    generalize dec s.1.l = d at *
    clear hsl hW5 e1 e3
    obtain ⟨w6, hst6⟩ : ∃ w6, w5.alloc (.cells zeroC 60) = w6 := ⟨_, rfl⟩
    rw [hst6] at HN6 HR6 HC6 HW6 HS6
    have hlt1 := Lib.hid HR5.out.lt
    have hlt2 := Lib.hid HC5.out.lt
    have HR7 := Lib.hid (HR6.out.farRow (b := w5.heap.size) (by have := hlt1.out; omega) (rqC d.1))
    have HC7 := Lib.hid (HC6.out.farRow (b := w5.heap.size) (by have := hlt2.out; omega) (rqC d.1))
    have HN7 := Lib.hid (HN6.out.row (rqC d.1))
    have HW7 := Lib.hid (below_setRow HW6.out (g := w5.heap.size) (by have := HW.out.size; omega) (rqC d.1))
    have HS7 := Lib.hid (HS6.out.keep (w' := w6.setRow w5.heap.size (rqC d.1)) fun b hb => setRow_other w6 w5.heap.size b _ (by omega))
    obtain ⟨w7, hst7⟩ : ∃ w7, w6.setRow w5.heap.size (rqC d.1) = w7 := ⟨_, rfl⟩
    rw [hst7] at HR7 HC7 HN7 HW7 HS7
    have f1 : w7.drew.cell? ⟨w.heap.size + 1, 1, none⟩ = some (.slice A s.1.l.length cap) := HC7.out.is 1 rfl
    have l5 := loadReq_row (show Blk w7.drew w5.heap.size 60 (rqC d.1) from HN7.out)
    have l1 := loadReq_row (show Blk w7.drew w.heap.size 60 (rqC q) from HR7.out)
    have HW8 := Lib.hid (below_drew HW7.out)
    have HS8 := Lib.hid (show Sl byC w7.drew w7.drew.heap.size (.slice A s.1.l.length cap) s.1.l from HS7.out.more (by rw [← hst7, ← hst6]; simp))
    have hd2 : ∃ b, (d.2 == 0) = b := ⟨_, rfl⟩
    obtain ⟨b, hb⟩ := hd2
    have HDB := Lib.hid (show decide (d.2 = 0) = b by rw [← hb]; rfl)
    cases b
    all_goals
      go_wp2_with (refine wpList_store_row rfl 60 (.tmp 5) (.tmp 23) rfl w5.heap.size (rqC d.1) rfl rfl 60 zeroC HN6.out (rq_size _) rfl (rq_one _) ?_)
      refine still_all (by kernel_rfl) (by kernel_rfl) ?_
      generalize w7.drew = w8 at *
      repeat still_step
      refine wpStill_nil ?_
      go_wp2_with fail
      go_ret2
      rw [HDB.out] at HEO
      refine ⟨_, s.1.l, ?_, HS8.out, fun e => (by rw [HEB.out] at e; cases e), fun _ => HEL.out.symm, HW8.out⟩
      rw [HEO.out]
      simp
  · rw [hbad] at e3 HEO HEB
    clear hbad
    go_wp2_with fail
    go_ret2
    exact ⟨_, [], by rw [HEO.out]; rfl, Sl.nil, fun _ => rfl, fun e => (by rw [HEB.out] at e; cases e), HW.out⟩
end Go.Proofs.YtldjgpnbkbmgoaaGreatDoor
