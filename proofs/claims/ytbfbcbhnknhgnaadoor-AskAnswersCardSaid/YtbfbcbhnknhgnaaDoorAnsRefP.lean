/-
  The reference's answer is the program's. No program here. Conditions: none.
-/
import Derived.Test.YtbfbcbhnknhgnaaDoorRefText
import Derived.Test.YtbfbcbhnknhgnaaDoorAnsPlain
namespace Go.Proofs.YtbfbcbhnknhgnaaDoor
open Go.RowKit

theorem joinF : ∀ (x : List UInt8) (r : List (List UInt8)), joinW (x :: r) = x ++ r.flatMap fun w => 32 :: w
  | x, [] => by unfold joinW; rw [Lib.join_one]; simp
  | x, y :: r => by rw [joinW_cons, joinF y r]; simp
theorem wordsF (ns : List Int) : wordsT ns = (nsW ns).flatMap fun w => 32 :: w := by
  unfold wordsT nsW
  rw [List.flatMap_map]
def posB (a b c d : Int) : Bool := decide (0 < a) || (decide (0 < b) || (decide (0 < c) || decide (0 < d)))
def secT (a : Ans) : List UInt8 := if 0 < a.secret then [32, 115, 101, 99, 114, 101, 116, 32] ++ hexT a.secret else []
def recT (a : Ans) : List UInt8 := if posB a.id a.ax a.ay a.label = true then [32, 114, 101, 99, 111, 114, 100] ++ wordsT [a.id, a.ax, a.ay, a.label] else []
def boxT (a : Ans) : List UInt8 := if posB a.x0 a.y0 a.x1 a.y1 = true then [32, 98, 111, 120] ++ wordsT [a.x0, a.y0, a.x1, a.y1] else []
def snT (s : Sn) : List UInt8 := [32, 115, 101, 101, 110] ++ wordsT [s.id, s.level, s.x0, s.y0, s.x1, s.y1]
def evT (e : Ev) : List UInt8 := [32, 101, 118, 101, 110, 116] ++ wordsT [e.user, e.op, e.status, e.tick]
/-- The reference's line of an answer. -/
def ransT (a : Ans) : List UInt8 := stW a.status ++ secT a ++ recT a ++ boxT a ++ a.seen.flatMap snT ++ a.events.flatMap evT
def snQ (s : Sn) : Bool := !nsB [s.id, s.level, s.x0, s.y0, s.x1, s.y1]
def evQ (e : Ev) : Bool := !nsB [e.user, e.op, e.status, e.tick]
/-- Whether the reference lets an answer be written. -/
def headR2 (a : Ans) : Bool := decide (0 ≤ a.status) && (decide (a.status ≤ 12) && (!nsB [a.id, a.ax, a.ay, a.label] && !nsB [a.x0, a.y0, a.x1, a.y1]))
def mayR (a : Ans) : Bool := headR2 a && (a.seen.all snQ && a.events.all evQ)

def sp (w : List UInt8) : List UInt8 := 32 :: w
theorem ns_zero {a b c d : Int} (h : eq4 a b c d 0 0 0 0 = true) : nsB [a, b, c, d] = false := by
  obtain ⟨rfl, rfl, rfl, rfl⟩ := eq4_zero h
  decide
theorem recB_eq (a : Ans) : recB a = nsB [a.id, a.ax, a.ay, a.label] := by
  unfold recB
  split
  · rename_i h
    exact (ns_zero h).symm
  · rfl
theorem boxN_eq (a : Ans) : boxN a = nsB [a.x0, a.y0, a.x1, a.y1] := by
  unfold boxN
  split
  · rename_i h
    exact (ns_zero h).symm
  · rfl
theorem snB_eq (s : Sn) : snB s = !snQ s := by
  unfold snB snQ nsB
  simp only [List.any_cons, List.any_nil, Bool.or_false, Bool.or_assoc, Bool.not_not]
theorem evB_eq (s : Ev) : evB s = !evQ s := by
  unfold evB evQ
  simp
theorem mayR_eq (a : Ans) : mayR a = mayB a := by
  have h1 : a.seen.any snB = !a.seen.all snQ := by
    rw [List.not_all_eq_any_not]
    congr 1
    funext s
    exact snB_eq s
  have h2 : a.events.any evB = !a.events.all evQ := by
    rw [List.not_all_eq_any_not]
    congr 1
    funext s
    exact evB_eq s
  unfold mayR headR2 mayB partsB
  rw [recB_eq, boxN_eq, h1, h2]
  by_cases e1 : 0 ≤ a.status <;> by_cases e2 : a.status ≤ 12 <;> cases nsB [a.id, a.ax, a.ay, a.label] <;> cases nsB [a.x0, a.y0, a.x1, a.y1] <;> cases a.seen.all snQ <;> cases a.events.all evQ <;> simp [e1, e2]
theorem pos_eq {a b c d : Int} (h : nsB [a, b, c, d] = false) : posB a b c d = !eq4 a b c d 0 0 0 0 := by
  have hn := ns_ok h
  have b1 := hn a (by simp)
  have b2 := hn b (by simp)
  have b3 := hn c (by simp)
  have b4 := hn d (by simp)
  unfold posB eq4
  rw [Bool.eq_iff_iff]
  simp only [Bool.or_eq_true, decide_eq_true_eq, Bool.not_eq_true', decide_eq_false_iff_not]
  omega
theorem secT_eq (a : Ans) : secT a = (secW a).flatMap fun w => 32 :: w := by
  unfold secT secW
  by_cases h : a.secret = 0
  · rw [if_pos h, if_neg (by omega)]
    rfl
  · rw [if_neg h, if_pos (by omega)]
    simp
theorem recT_eq (a : Ans) (h : nsB [a.id, a.ax, a.ay, a.label] = false) : recT a = (recW a).flatMap fun w => 32 :: w := by
  unfold recT recW
  rw [pos_eq h, wordsF]
  cases eq4 a.id a.ax a.ay a.label 0 0 0 0
  · simp
  · simp
theorem boxT_eq (a : Ans) (h : nsB [a.x0, a.y0, a.x1, a.y1] = false) : boxT a = (boxW a).flatMap fun w => 32 :: w := by
  unfold boxT boxW
  rw [pos_eq h, wordsF]
  cases eq4 a.x0 a.y0 a.x1 a.y1 0 0 0 0
  · simp
  · simp
theorem snT_eq (s : Sn) : snT s = (snW s).flatMap fun w => 32 :: w := by
  unfold snT snW
  rw [wordsF]
  simp [nsW]
theorem evT_eq (s : Ev) : evT s = (evW s).flatMap fun w => 32 :: w := by
  unfold evT evW
  rw [wordsF]
  simp [nsW]
theorem ransT_eq (a : Ans) (h : mayB a = true) : ransT a = ansT a := by
  have h0 := h
  rw [← mayR_eq] at h0
  unfold mayR headR2 at h0
  simp only [Bool.and_eq_true, Bool.not_eq_true'] at h0
  have hT : ansT a = joinW (ansW a) := by unfold ansT; rw [if_pos h]
  rw [hT]
  show _ = joinW (stW a.status :: partsW a)
  rw [joinF]
  unfold ransT partsW
  rw [secT_eq, recT_eq a h0.1.2.2.1, boxT_eq a h0.1.2.2.2]
  have e1 : a.seen.flatMap snT = (a.seen.flatMap snW).flatMap fun w => 32 :: w := by
    rw [List.flatMap_assoc]
    exact congrArg (fun f => List.flatMap f _) (funext fun s => snT_eq s)
  have e2 : a.events.flatMap evT = (a.events.flatMap evW).flatMap fun w => 32 :: w := by
    rw [List.flatMap_assoc]
    exact congrArg (fun f => List.flatMap f _) (funext fun s => evT_eq s)
  rw [e1, e2]
  simp only [List.flatMap_append, List.append_assoc]
theorem ans_len (a : Ans) (hn : a.seen.length ≤ 70) (hm : a.events.length ≤ 70) : (ansT a).length ≤ 20000 := by
  unfold ansT
  split
  · have hf : Few 860 20 (ansW a) := by
      unfold ansW partsW
      refine Few.app (a := 1) (b := 852) (Few.one _ (stW_few _)) ?_ (by omega)
      refine Few.app (a := 502) (b := 350) ?_ ((Few.flat evW a.events (fun x _ => ev_few x)).more (by omega)) (by omega)
      refine Few.app (a := 12) (b := 490) ?_ ((Few.flat snW a.seen (fun x _ => sn_few x)).more (by omega)) (by omega)
      refine Few.app (a := 7) (b := 5) (Few.app (a := 2) (b := 5) ?_ ?_ (by omega)) ?_ (by omega)
      · unfold secW
        split
        · exact ⟨by simp, by simp⟩
        · exact ⟨by simp, by simp [hexT_len]⟩
      · unfold recW
        split
        · exact ⟨by simp, by simp⟩
        · exact Few.app (a := 1) (b := 4) (Few.one _ (by simp)) (.ns _ (by simp) (by omega)) (by omega)
      · unfold boxW
        split
        · exact ⟨by simp, by simp⟩
        · exact Few.app (a := 1) (b := 4) (Few.one _ (by simp)) (.ns _ (by simp) (by omega)) (by omega)
    have hj := joinW_len 20 _ hf.2
    have := hf.1
    omega
  · simp
end Go.Proofs.YtbfbcbhnknhgnaaDoor
