/-
  An answer's line. Conditions: as each states.
-/
import Derived.Test.YtbfbcbhnknhgnaaGreatDoorParts
namespace Go.Proofs.YtbfbcbhnknhgnaaGreatDoor
open Go.RowKit

def ansW (a : Ans) : List (List UInt8) := [stW a.status] ++ partsW a
/-- Whether an answer may be written. -/
def mayB (a : Ans) : Bool := decide (0 ≤ a.status ∧ a.status ≤ 12) && !partsB a
def ansT (a : Ans) : List UInt8 := if mayB a = true then joinW (ansW a) else []
def ansE (a : Ans) : Int := if mayB a = true then 0 else 1
def APost (w : World) (a : Ans) (e : Ending) (w' : World) : Prop := e = .returned (.tuple #[strV (ansT a), .int .i64 (ansE a)]) ∧ Below w.heap.size w w'
theorem sts_few : ∀ w ∈ stsL, w.length ≤ 20 ∧ w ≠ [] := by decide
theorem stW_few (st : Int) : (stW st).length ≤ 20 := by
  unfold stW
  split
  · rw [List.getD_eq_getElem?_getD]
    cases h : stsL[st.toNat]? with
    | none => simp
    | some w => exact (sts_few w (List.mem_of_getElem? h)).1
  · simp
theorem stW_empty (st : Int) : (stW st).isEmpty = !decide (0 ≤ st ∧ st ≤ 12) := by
  unfold stW
  by_cases h : 0 ≤ st ∧ st ≤ 12
  · rw [if_pos h, decide_eq_true h]
    have hlt : st.toNat < stsL.length := by show st.toNat < 13; omega
    rw [List.getD_eq_getElem?_getD, List.getElem?_eq_getElem hlt]
    have := (sts_few _ (List.getElem_mem hlt)).2
    simpa using this
  · rw [if_neg h, decide_eq_false h]
    rfl
theorem Few.flat {α : Type} {c m : Nat} (f : α → List (List UInt8)) (l : List α) (h : ∀ x ∈ l, Few c m (f x)) : Few (l.length * c) m (l.flatMap f) := by
  induction l with
  | nil => exact ⟨by simp, by simp⟩
  | cons a l ih =>
    rw [List.flatMap_cons, List.length_cons]
    exact Few.app (h a (by simp)) (ih fun x hx => h x (by simp [hx])) (by rw [Nat.add_mul]; omega)
theorem hexT_len (n : Nat) : (hexT n).length = 16 := hexF_len 16 n
theorem sn_few (s : Sn) : Few 7 20 (snW s) := by
  unfold snW
  exact Few.app (a := 3) (b := 4) (Few.app (a := 1) (b := 2) (Few.one _ (by simp)) (.ns _ (by simp) (by omega)) (by omega)) (.ns _ (by simp) (by omega)) (by omega)
theorem ev_few (e : Ev) : Few 5 20 (evW e) := by
  unfold evW
  exact Few.app (a := 1) (b := 4) (Few.one _ (by simp)) (.ns _ (by simp) (by omega)) (by omega)
theorem ans_few (a : Ans) (hn : a.seen.length ≤ 10000) (hm : a.events.length ≤ 10000) : Few 130000 20 (ansW a) := by
  unfold ansW partsW
  refine Few.app (a := 1) (b := 129000) (Few.one _ (stW_few _)) ?_ (by omega)
  refine Few.app (a := 70012) (b := 50000) ?_ ((Few.flat evW a.events (fun x _ => ev_few x)).more (by omega)) (by omega)
  refine Few.app (a := 12) (b := 70000) ?_ ((Few.flat snW a.seen (fun x _ => sn_few x)).more (by omega)) (by omega)
  refine Few.app (a := 7) (b := 5) (Few.app (a := 2) (b := 5) ?_ ?_ (by omega)) ?_ (by omega)
  · unfold secW
    split
    · exact ⟨by simp, by simp⟩
    · exact ⟨by simp, by simp [hexT_len]⟩
  · unfold recW
    split
    · exact ⟨by simp, by simp⟩
    · exact Few.app (a := 1) (b := 4) (Few.one _ (by simp)) (.ns _ (by simp) (by omega)) (by omega)
  · unfold boxW
    split
    · exact ⟨by simp, by simp⟩
    · exact Few.app (a := 1) (b := 4) (Few.one _ (by simp)) (.ns _ (by simp) (by omega)) (by omega)

set_option maxRecDepth 100000 in
set_option maxHeartbeats 2000000 in
theorem Answer_ok (w : World) (a : Ans) (sv ev : Value) (hs : Sl snC w w.heap.size sv a.seen) (he : Sl evC w w.heap.size ev a.events) (hn : a.seen.length ≤ 10000) (hm : a.events.length ≤ 10000) (hsec : a.secret < 18446744073709551616) :
    Calls Tryz.prog 24 #[.agg (anC a sv ev)] w (APost w a) := by
  have hfew := ans_few a hn hm
  have hjl := joinW_len 20 _ hfew.2
  have hbound : (joinW (ansW a)).length ≤ 140737488355328 := Nat.le_trans hjl (by have := hfew.1; omega)
  have HJ := Lib.hid hbound
  have HF := Lib.hid hfew.1
  have HSEC := Lib.hid hsec
  clear hfew hjl hbound hsec
  have hb1 := Blk.new w 70 (anC a sv ev)
  have hW1 := (Below.refl w.heap.size w).alloc (Nat.le_refl _) (.cells (anC a sv ev) 70)
  have hz1 : (w.alloc (.cells (anC a sv ev) 70)).heap.size = w.heap.size + 1 := by simp
  obtain ⟨w1, hst1⟩ : ∃ w1, w.alloc (.cells (anC a sv ev) 70) = w1 := ⟨_, rfl⟩
  rw [hst1] at hb1 hW1 hz1
  have hwr := Wri.new w1 w1.heap.size (Nat.le_refl _)
  have hb2 := hb1.alloc (.cells #[.slice none 0 0, .bool false] 48)
  have hW2 := hW1.alloc (by omega) (.cells #[.slice none 0 0, .bool false] 48)
  obtain ⟨w2, hst2⟩ : ∃ w2, w1.alloc (.cells #[.slice none 0 0, .bool false] 48) = w2 := ⟨_, rfl⟩
  rw [hst2] at hwr hb2 hW2
  obtain ⟨g, hg⟩ : ∃ g, g = w1.heap.size := ⟨_, rfl⟩
  rw [← hg] at hwr
  obtain ⟨ab, hab⟩ : ∃ ab, ab = w.heap.size := ⟨_, rfl⟩
  have hag : ab < g := by omega
  have hwg : w.heap.size ≤ g := by omega
  have HB := Lib.hid (show Blk w2 ab 70 (anC a sv ev) from by rw [hab]; exact hb2)
  have HA := Lib.hid hab
  have HW := Lib.hid hW2
  have HH := Lib.hid hwr
  have HSN := Lib.hid ((hs.below hW2).more hwg)
  have HEV := Lib.hid ((he.below hW2).more hwg)
  have hg' := hg.symm
  have c0 := (show World.cell? _ ⟨w.heap.size, 0, none⟩ = some (.int .i64 a.status) from by rw [← hab]; exact HB.out.is 0 rfl)
  clear hb1 hW1 hz1 hwr hb2 hW2 hg hab hs he
  go_enter Tryz.func24, Tryz.ntmps24
  go_wp2_with fail
  refine (Status_ok a.status w2).mono ?_
  rintro e w3 ⟨rfl, h1⟩
  have HW := Lib.hid (HW.out.trans (h1.mono HW.out.size))
  have HB := Lib.hid (HB.out.below h1 HB.out.lt)
  have HSN := Lib.hid (HSN.out.keep fun b hb => h1.block b (by have := HH.out.lt; omega))
  have HEV := Lib.hid (HEV.out.keep fun b hb => h1.block b (by have := HH.out.lt; omega))
  have HH := Lib.hid (HH.out.keep h1)
  clear h1 c0 hst1 hst2 hg'
  go_wp2_with fail
  refine (word_new _ g g _ _ HH.out (stW a.status) _ rfl (by simp)).mono ?_
  rintro e w4 ⟨rfl, h1, h2, h3⟩
  have HH := Lib.hid h1
  have HB := Lib.hid (h2.blk HB.out (by omega) (by decide))
  have HW := Lib.hid (HW.out.trans (h3.mono hwg))
  have HSN := Lib.hid (HSN.out.below h3)
  have HEV := Lib.hid (HEV.out.below h3)
  clear h1 h2 h3
  go_wp2_with (refine wpList_load_row rfl 70 (.tmp 1) rfl w.heap.size rfl 70 (anC a sv ev) (0, 0) _ (by rw [← HA.out]; exact HB.out) Tryz.underlying70 rfl (by kernel_rfl) ?_)
  refine (parts_ok _ g g _ _ HH.out a sv ev HSN.out HEV.out hn hm HSEC.out (by simp)).mono ?_
  rintro e w5 ⟨rfl, h1, h3⟩
  have HH := Lib.hid h1
  have HB := Lib.hid (HB.out.below h3 (by omega))
  have HW := Lib.hid (HW.out.trans (h3.mono hwg))
  have c0 := (show World.cell? _ ⟨w.heap.size, 0, none⟩ = some (.int .i64 a.status) from by rw [← HA.out]; exact HB.out.is 0 rfl)
  clear h1 h3 HSN HEV
  go_wp2_with fail
  refine (Status_ok a.status w5).mono ?_
  rintro e w6 ⟨rfl, h1⟩
  have HW := Lib.hid (HW.out.trans (h1.mono HW.out.size))
  have HH := Lib.hid (show Wri w6 g g (ansW a) (false || partsB a) from HH.out.keep h1)
  clear h1 c0
  obtain ⟨A, cap, g1, g2, g3⟩ := HH.out
  have d1 := (show World.cell? _ ⟨g, 1, none⟩ = some (.bool (partsB a)) from g1.is 1 (by simp))
  have hse := stW_empty a.status
  clear g1 g2 g3
  have hcase : (mayB a = false ∧ (stW a.status).isEmpty = true) ∨ (mayB a = false ∧ (stW a.status).isEmpty = false ∧ partsB a = true) ∨ (mayB a = true ∧ (stW a.status).isEmpty = false ∧ partsB a = false) := by
    rw [hse]
    unfold mayB
    cases decide (0 ≤ a.status ∧ a.status ≤ 12) <;> cases partsB a <;> simp
  obtain ⟨pb, hpb⟩ : ∃ pb, pb = partsB a := ⟨_, rfl⟩
  rw [← hpb] at d1 hcase HH
  clear hse hpb
  rcases hcase with ⟨hmay, he⟩ | ⟨hmay, he, rfl⟩ | ⟨hmay, he, rfl⟩
  case inr.inr =>
    have hT : ansT a = joinW (ansW a) := by unfold ansT; rw [if_pos hmay]
    have hE : ansE a = 0 := by unfold ansE; rw [if_pos hmay]
    have HT := Lib.hid hT
    have HE := Lib.hid hE
    clear hT hE hmay
    go_wp2_with fail
    refine (line_ok w6 g g (ansW a) _ HH.out (by have := HF.out; omega) HJ.out).mono ?_
    rintro e w7 ⟨rfl, h1⟩
    have HW := Lib.hid (HW.out.trans (h1.mono HW.out.size))
    clear h1
    go_wp2_with fail
    go_ret2
    exact ⟨by rw [HT.out, HE.out]; rfl, HW.out⟩
  all_goals
    have hT : ansT a = [] := by unfold ansT; rw [if_neg (by rw [hmay]; decide)]
    have hE : ansE a = 1 := by unfold ansE; rw [if_neg (by rw [hmay]; decide)]
    have HT := Lib.hid hT
    have HE := Lib.hid hE
    clear hT hE hmay
    go_wp2_with fail
    go_ret2
    exact ⟨by rw [HT.out, HE.out]; rfl, HW.out⟩
end Go.Proofs.YtbfbcbhnknhgnaaGreatDoor
