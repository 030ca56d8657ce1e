/-
  The fields of an operation, and how many bytes they are. Conditions: as each states.
-/
import Derived.Test.YtldjgpnbkbmgoaaGreatDoorWalk
namespace Go.Proofs.YtldjgpnbkbmgoaaGreatDoor
open Go.RowKit Go.Lib

def fieldsS (p : CS × Req) : CS × Req := ownS (ruleS p)
def fieldsN (op : Int) : Nat := ruleN op + ownN op

theorem nS_op {off : Nat} {L : Lens off} {k : Nat} {most : Int} {p : CS × Req} (hL : ∀ q v, (L.set q v).op = q.op) : (nS L k most p).2.op = p.2.op := by
  unfold nS
  split
  · rfl
  · split
    · exact hL _ _
    · rfl
theorem lS_op {off : Nat} {L : LensU off} {p : CS × Req} (hL : ∀ q v, (L.set q v).op = q.op) : (lS L p).2.op = p.2.op := by
  unfold lS
  split
  · rfl
  · split
    · exact hL _ _
    · rfl
theorem tS_op {p : CS × Req} : (tS p).2.op = p.2.op := by
  unfold tS
  split
  · rfl
  · split <;> rfl
theorem tS_md {p : CS × Req} : (tS p).1.m = p.1.m := by
  obtain ⟨⟨m, l, n, bad⟩, q⟩ := p
  unfold tS
  simp only
  split
  · rename_i h
    exact h.symm
  · split
    · rename_i h
      exact h.symm
    · rfl
theorem tS_wr {p : CS × Req} (h : p.1.m = 0) : (tS p).2 = p.2 := by
  unfold tS
  rw [if_pos h]

theorem ruleS_op (p : CS × Req) : (ruleS p).2.op = p.2.op := by
  unfold ruleS
  split
  · rw [nS_op (fun _ _ => rfl), nS_op (fun _ _ => rfl), nS_op (fun _ _ => rfl), nS_op (fun _ _ => rfl)]
  split
  · rw [nS_op (fun _ _ => rfl)]
  split
  · rw [tS_op]
  split
  · rw [nS_op (fun _ _ => rfl), nS_op (fun _ _ => rfl), nS_op (fun _ _ => rfl)]
  split
  · rw [nS_op (fun _ _ => rfl), nS_op (fun _ _ => rfl)]
  rfl
theorem ruleS_md (p : CS × Req) : (ruleS p).1.m = p.1.m := by
  unfold ruleS
  split
  · simp only [nS_md]
  split
  · simp only [nS_md]
  split
  · rw [tS_md]
  split
  · simp only [nS_md]
  split
  · simp only [nS_md]
  rfl
theorem ruleS_wr (p : CS × Req) (h : p.1.m = 0) : (ruleS p).2 = p.2 := by
  unfold ruleS
  split
  · rw [nS_wr (by simp only [nS_md]; exact h), nS_wr (by simp only [nS_md]; exact h), nS_wr (by simp only [nS_md]; exact h), nS_wr h]
  split
  · rw [nS_wr h]
  split
  · rw [tS_wr h]
  split
  · rw [nS_wr (by simp only [nS_md]; exact h), nS_wr (by simp only [nS_md]; exact h), nS_wr h]
  split
  · rw [nS_wr (by simp only [nS_md]; exact h), nS_wr h]
  rfl
theorem fit_rule {p : CS × Req} {b j : Nat} (h : Fit p.1 b) (e : ruleN p.2.op + j = b) (h3 : p.2.op ≠ 3) : Fit (ruleS p).1 j := by
  unfold ruleN at e
  unfold ruleS
  split
  · rename_i h1
    rw [if_pos h1] at e
    exact fit_n (b := 2 + j) (fit_n (b := 3 + j) (fit_n (b := 4 + j) (fit_n h (by omega)) (by omega)) (by omega)) (by omega)
  rename_i h1
  rw [if_neg h1] at e
  split
  · rename_i h1
    rw [if_pos h1] at e
    exact fit_n h (by omega)
  rename_i h1
  rw [if_neg h1] at e
  rw [if_neg h3] at e
  split
  · rename_i h1
    rw [if_pos h1] at e
    exact fit_n (b := 4 + j) (fit_n (b := 5 + j) (fit_n h (by omega)) (by omega)) (by omega)
  rename_i h1
  rw [if_neg h1] at e
  split
  · rename_i h1
    rw [if_pos h1] at e
    exact fit_n (b := 2 + j) (fit_n h (by omega)) (by omega)
  rename_i h1
  rw [if_neg h1] at e
  exact h.less (by omega)

set_option maxRecDepth 100000 in
set_option maxHeartbeats 1000000 in
theorem fields_ok (w : World) (base c r : Nat) (p : CS × Req) (hC : Cod w base c p.1) (hR : Rq w r p.2) (hcr : c ≠ r) (hbr : base ≤ r) (hf : Fit p.1 (fieldsN p.2.op)) (hu : p.1.m = 0 → p.2.ok) (ht : p.1.m = 0 → p.1.l.length + p.2.txt.length ≤ 140737488355328) :
    Calls Tryz.prog 111 #[.pointer (some ⟨c, 0, none⟩), .pointer (some ⟨r, 0, none⟩)] w (RPost w base c r (fieldsS p)) := by
  have HC := Lib.hid hC
  have HR := Lib.hid hR
  have HF := Lib.hid hf
  clear hC hR hf
  go_enter Tryz.func111, Tryz.ntmps111
  go_wp2_with fail
  refine (rule_ok w base c r p HC.out HR.out hcr hbr (HF.out.less (Nat.le_add_right _ _)) hu ht).mono ?_
  rintro e w1 ⟨rfl, hC, hR, hW⟩
  have HC := Lib.hid hC
  have HR := Lib.hid hR
  have HW := Lib.hid hW
  clear hC hR hW
  go_wp2_with fail
  refine (own_ok w1 base c r (ruleS p) HC.out HR.out hcr hbr (fun e => by rw [ruleS_op] at e ⊢; exact fit_rule HF.out rfl e) (fun e => by rw [ruleS_md] at e; rw [ruleS_wr p e]; exact hu e)).mono ?_
  rintro e w2 ⟨rfl, hC, hR, hW⟩
  have HC := Lib.hid hC
  have HR := Lib.hid hR
  have HW := Lib.hid (HW.out.trans hW)
  clear hC hR hW
  go_wp2_with fail
  refine bodyPost_ret (results_none rfl _ _ _) rfl ?_
  exact ⟨rfl, HC.out, HR.out, HW.out⟩

/-- Whether there is an operation. -/
def isOp (op : Int) : Bool := decide (1 ≤ op) && decide (op ≤ 19)
theorem there_ok (op : Int) (w : World) : Calls Tryz.prog 156 #[.int .i64 op] w fun e w' => e = .returned (.bool (isOp op)) ∧ w' = w := by
  unfold isOp
  by_cases h : 1 ≤ op
  all_goals
    go_enter Tryz.func156, Tryz.ntmps156
    go_wp2
    go_ret
    simp [h] <;> omega

theorem rthere_ok (op : Int) (w : World) : Calls Tryz.prog 72 #[.int .i64 op] w fun e w' => e = .returned (.bool (isOp op)) ∧ w' = w := by
  unfold isOp
  by_cases h : 1 ≤ op
  all_goals
    go_enter Tryz.func72, Tryz.ntmps72
    go_wp2
    go_ret
    simp [h] <;> omega

theorem isOp_cases {op : Int} (h : isOp op = true) : op = 1 ∨ op = 2 ∨ op = 3 ∨ op = 4 ∨ op = 5 ∨ op = 6 ∨ op = 7 ∨ op = 8 ∨ op = 9 ∨ op = 10 ∨ op = 11 ∨ op = 12 ∨ op = 13 ∨ op = 14 ∨ op = 15 ∨ op = 16 ∨ op = 17 ∨ op = 18 ∨ op = 19 := by
  simp only [isOp, Bool.and_eq_true, decide_eq_true_eq] at h
  omega
theorem isOp_le {op : Int} (h : isOp op = true) : 1 ≤ op ∧ op ≤ 19 := by
  simpa only [isOp, Bool.and_eq_true, decide_eq_true_eq] using h

/-- A request of zeros. -/
def zeroR (op : Int) : Req := ⟨op, 0, 0, 0, 0, 0, 0, 0, 0, [], 0, 0, 0, 0, 0, 0, 0, 0, 0, 0, 0, 0, 0, 0⟩
def needsZ (op : Int) : Int := if isOp op = true then fieldsN op else -1
theorem counted {op : Int} (h : isOp op = true) : (fieldsS (⟨1, [], 0, false⟩, zeroR op)).1.n = fieldsN op := by
  rcases isOp_cases h with rfl | rfl | rfl | rfl | rfl | rfl | rfl | rfl | rfl | rfl | rfl | rfl | rfl | rfl | rfl | rfl | rfl | rfl | rfl <;> rfl
theorem fieldsN_le (op : Int) : fieldsN op ≤ 14 := by
  have h1 : ruleN op ≤ 7 := by unfold ruleN; split; omega; split; omega; split; omega; split; omega; split <;> omega
  by_cases h : op = 5
  · subst h
    decide
  · have h2 : ownN op ≤ 10 := by
      unfold ownN
      rw [if_neg h]
      repeat' split
      all_goals omega
    by_cases h4 : op = 7
    · subst h4
      decide
    · have h2 : ownN op ≤ 8 := by
        unfold ownN
        rw [if_neg h]
        repeat' split
        all_goals omega
      by_cases h5 : ownN op = 0
      · unfold fieldsN; omega
      · have h6 : ruleN op = 0 := by
          unfold ownN at h5
          unfold ruleN
          repeat' split
          all_goals first | rfl | (subst_vars; simp at h5)
        unfold fieldsN; omega

set_option maxRecDepth 100000 in
set_option maxHeartbeats 1000000 in
theorem needs_ok (op : Int) (w : World) : Calls Tryz.prog 144 #[.int .i64 op] w fun e w' => e = .returned (.int .i64 (needsZ op)) ∧ Below w.heap.size w w' := by
  have ht := there_ok op w
  unfold needsZ
  by_cases h : isOp op = true
  · have HF := Lib.hid (show Fit (⟨1, [], 0, false⟩ : CS) (fieldsN (zeroR op).op) from ⟨.inr (.inl rfl), by decide, by have := fieldsN_le op; simp only [zeroR]; omega, fun e => by simp at e, fun e => by simp at e⟩)
    have HN := Lib.hid (counted h)
    rw [if_pos h]
    rw [h] at ht
    clear h
    go_enter Tryz.func144, Tryz.ntmps144
    go_wp2_with fail
    refine ht.mono ?_
    rintro e w' ⟨rfl, hw'⟩
    rw [hw']
    clear hw' w'
    go_wp2_with fail
    have hb1 := Lib.hid ((Blk.new w 164 (codA 1 0 none 0 0 false)).alloc (.cells (rqC (zeroR op)) 60))
    have hb2 := Lib.hid (Blk.new (w.alloc (.cells (codA 1 0 none 0 0 false) 164)) 60 (rqC (zeroR op)))
    have hW := Lib.hid (((Below.refl w.heap.size w).alloc (Nat.le_refl _) (.cells (codA 1 0 none 0 0 false) 164)).alloc (by simp) (.cells (rqC (zeroR op)) 60))
    have HC := Lib.hid (Cod.read (l := []) hb1.out rfl (Nat.le_refl _) Sl.nil)
    have hz : (w.alloc (.cells (codA 1 0 none 0 0 false) 164)).heap.size = w.heap.size + 1 := by simp
    rw [hz] at hb2
    have HR := Lib.hid (show Rq _ (w.heap.size + 1) (zeroR op) from hb2.out)
    clear hb1 hb2
    refine (fields_ok _ w.heap.size w.heap.size (w.heap.size + 1) (⟨1, [], 0, false⟩, zeroR op) HC.out HR.out (by omega) (by omega) HF.out (fun e => by simp at e) (fun e => by simp at e)).mono ?_
    rintro e w2 ⟨rfl, ⟨A, cap, hb, -, -, -⟩, -, hW2⟩
    have hW3 := Lib.hid (hW.out.trans hW2)
    have c2 := hb.is 2 rfl
    rw [HN.out] at c2
    clear hb hW2
    go_wp2_with fail
    go_ret
    exact ⟨rfl, hW3.out⟩
  · rw [if_neg h]
    rw [Bool.not_eq_true] at h
    rw [h] at ht
    clear h
    go_enter Tryz.func144, Tryz.ntmps144
    go_wp2_with fail
    refine ht.mono ?_
    rintro e w' ⟨rfl, hw'⟩
    rw [hw']
    clear hw' w'
    go_wp2_with fail
    go_ret
    exact ⟨rfl, Below.refl _ _⟩
end Go.Proofs.YtldjgpnbkbmgoaaGreatDoor
