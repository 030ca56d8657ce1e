/-
  The reference's line is the program's. No program here. Conditions: none. The reference's line of a request. Conditions: as each states. The reference's texts: small, Hex, an item's Line, a job's Text; its Wrong and Right. Conditions: as each states. What may be has numbers of the machine's kind. No program here. Conditions: none.
-/
import Derived.Test.YtldjgpnbkbmgoaaGreatDoorPR4
import Derived.Test.YtldjgpnbkbmgoaaGreatDoorPR2
import Derived.Test.YtldjgpnbkbmgoaaGreatDoorLine
import Derived.Test.YtldjgpnbkbmgoaaGreatDoorPR1
import Derived.Test.YtldjgpnbkbmgoaaGreatDoorPR6
import Derived.Test.YtldjgpnbkbmgoaaGreatDoorPR8
import Derived.Deep.RegionHeld3
import Derived.Deep.DeepCutAuto
set_option linter.unusedSimpArgs false
set_option linter.unusedVariables false
set_option maxRecDepth 100000
set_option maxHeartbeats 8000000
namespace Go.Proofs.YtldjgpnbkbmgoaaGreatDoor
open Go.RowKit
end Go.Proofs.YtldjgpnbkbmgoaaGreatDoor
namespace Go.Proofs.YtldjgpnbkbmgoaaGreatDoor
open Go.RowKit
attribute [local go_sem ↓] load_req stop_req
theorem RQ.to {w wx wy : World} {q : Req} (h : RQ w wx q) (e : wy = wx) : RQ w wy q := by rw [e]; exact h
end Go.Proofs.YtldjgpnbkbmgoaaGreatDoor

namespace Go.Proofs.YtldjgpnbkbmgoaaGreatDoor
open Go.RowKit Go.Lib
attribute [local go_sem ↓] load_req stop_req
theorem loadReq_at {w : World} {g o : Nat} {q : Req} (h : Lay w g o (rqC q).toList) : loadReq (.pointer (some ⟨g, o, none⟩)) w = .ok (.value (.agg (rqC q))) w := by
  unfold loadReq execOp
  simp only [Instr.loadAt, Instr.sureAddr, Sem.run_bind, Sem.run_pure, Result.andThen_ok, run_loadVar_mid w g o _ (rqC q).toList _ h Tryz.underlying60 rfl (by simpa using rq_size q), Array.toArray_toList]
abbrev RLB (w wx : World) (r : HRw) : Prop := HBx 75 w wx w.heap.size r
theorem RLB.sl {w wx : World} {r : HRw} (h : RLB w wx r) (hs : Sl byC w w.heap.size (.slice r.A r.x.bs.length r.cap) r.x.bs) : Sl byC wx wx.heap.size (.slice r.A r.x.bs.length r.cap) r.x.bs := (hs.below h.bel).more h.bel.size
theorem RLB.to {w wx wy : World} {r : HRw} (h : RLB w wx r) (hb : Below wx.heap.size wx wy) : RLB w wy r := HBx.below h hb
end Go.Proofs.YtldjgpnbkbmgoaaGreatDoor

namespace Go.Proofs.YtldjgpnbkbmgoaaGreatDoor
open Go.RowKit
theorem ite_RhB {p : Req → Prop} {c : Prop} [Decidable c] {a b : Req} (h1 : c → p a) (h2 : ¬ c → p b) : p (if c then a else b) := by
  split
  · rename_i h; exact h1 h
  · rename_i h; exact h2 h
theorem with_ibB (h : Req) (v : List Nat) (t : List UInt8) (hh : h.ib) (hv : ∀ i, v.getD i 0 < 9223372036854775808 ∨ h.op = 6 ∨ h.op = 3 ∨ (h.op = 7 ∧ i = 1)) : (withR h v t).ib := by
  have H0 := hv 0
  have H1 := hv 1
  have H2 := hv 2
  have H3 := hv 3
  have H4 := hv 4
  have H5 := hv 5
  have H6 := hv 6
  clear hv
  unfold Req.ib at hh
  simp only [List.forall_mem_cons, List.not_mem_nil, false_implies, implies_true, and_true] at hh
  unfold withR
  repeat' refine ite_RhB (p := Req.ib) (fun _ => ?_) (fun _ => ?_)
  all_goals
    unfold Req.ib
    simp only [List.forall_mem_cons, List.not_mem_nil, false_implies, implies_true, and_true]
    omega
theorem cut_smB : ∀ (ws : List Nat) (r : List UInt8), (∀ x ∈ ws, x ≤ 4) → ∀ i, (cutN r ws).getD i 0 < 9223372036854775808
  | [], r, _, i => by simp [cutN]
  | y :: ws, r, h, 0 => by
    have h4 := h y (by simp)
    have h1 : (r.take y).length ≤ 4 := by simp; omega
    have h2 := beNat_lt (r.take y).length (r.take y) rfl
    have h3 : 256 ^ (r.take y).length ≤ 256 ^ 4 := Nat.pow_le_pow_right (by omega) h1
    have h5 : (256 : Nat) ^ 4 = 4294967296 := by decide
    simp only [cutN, List.getD_cons_zero]
    omega
  | y :: ws, r, h, i + 1 => by
    simp only [cutN, List.getD_cons_succ]
    exact cut_smB ws _ (fun x hx => h x (List.mem_cons_of_mem _ hx)) i
theorem widths_small (op : Int) (h6 : op ≠ 6) (h7 : op ≠ 7) : ∀ x ∈ widths op, x ≤ 4 := by
  unfold widths
  intro x hx
  repeat' split at hx
  all_goals first | (exact absurd (by assumption) h6) | (exact absurd (by assumption) h7) | (simp at hx <;> omega)
theorem widths7 (r : List UInt8) (i : Nat) (hi : i ≠ 1) : (cutN r (widths 7)).getD i 0 < 9223372036854775808 := by
  have e : widths 7 = [2, 8] := by decide
  rw [e]
  match i, hi with
  | 0, _ =>
    have := cut_smB [2] r (by simp) 0
    simpa [cutN] using this
  | i + 2, _ => simp [cutN]
theorem byN_256 (l : List UInt8) (i : Nat) : byN l i < 256 := by
  unfold byN
  exact (l.getD i 0).toNat_lt
theorem enc_ib {q : Req} (h : encOk q = true) : q.ib := by
  obtain ⟨-, hq⟩ := enc_good h
  rw [hq]
  unfold bodyQ
  refine with_ibB _ _ _ ?_ (fun i => ?_)
  · have h0 := byN_256 (encL q) 0
    have h1 := byN_256 (encL q) 1
    have h2 := byN_256 (encL q) 2
    have h3 := byN_256 (encL q) 3
    have h4 := byN_256 (encL q) 12
    unfold Req.ib headR zeroR
    simp only [List.forall_mem_cons, List.not_mem_nil, false_implies, implies_true, and_true]
    omega
  · by_cases h6 : (headR (encL q)).op = 6
    · exact .inr (.inl h6)
    · by_cases h7 : (headR (encL q)).op = 7
      · by_cases hi : i = 1
        · exact .inr (.inr (.inr ⟨h7, hi⟩))
        · left
          rw [h7]
          exact widths7 _ _ hi
      · exact .inl (cut_smB _ _ (widths_small _ h6 h7) i)
theorem zeroR_ib : (zeroR 0).ib := by
  unfold Req.ib zeroR
  simp
theorem bareB_eq {q : Req} (h : bareB q = true) : q = zeroR 0 := by
  unfold bareB at h
  unfold reqEq at h
  first | exact of_decide_eq_true h | simpa using h
theorem itOk_ib {x : HIt} (h : itOk x = true) : x.q.ib := by
  unfold itOk at h
  have hb : ∀ q : Req, bareB q = true → q.ib := fun q hq => by rw [bareB_eq hq]; exact zeroR_ib
  repeat' split at h
  all_goals
    try simp only [Bool.and_eq_true, decide_eq_true_eq] at h
    first | exact hb _ h.2.2.2.2 | exact hb _ h.2.2.2 | exact enc_ib h.2.2.2 | exact absurd h (by decide)
end Go.Proofs.YtldjgpnbkbmgoaaGreatDoor

