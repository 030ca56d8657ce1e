/-
  The reference's numbers' texts. Conditions: none. A line's words read: unhex, the reader's word, number, draw and bytes, secret. Conditions: texts of a known greatest length. The program's texts: small, hex, an item's line, a job's text. Conditions: as each states.
-/
import Derived.Test.YtldjgpnbkbmgoaaGreatDoorWriter
import Derived.Test.YtldjgpnbkbmgoaaGreatDoorPR1
import Derived.Test.YtldjgpnbkbmgoaaGreatDoorPR2
import Derived.Test.YtldjgpnbkbmgoaaGreatDoorPR3
import Derived.Test.YtldjgpnbkbmgoaaGreatDoorLine
import Derived.Deep.QuietTactic
import Derived.BigQuiet
import Derived.Deep.RegionHeld3
import Derived.Deep.DeepCutAuto
set_option linter.unusedSimpArgs false
set_option linter.unusedVariables false
set_option maxRecDepth 100000
set_option maxHeartbeats 8000000
namespace Go.Proofs.YtldjgpnbkbmgoaaGreatDoor
open Go.RowKit
theorem str_add (a b : List UInt8) (h : a.length + b.length ≤ 9223372036854775807) (w : World) : (Op.stringOp .add ⟨a.toArray⟩ ⟨b.toArray⟩).run Tryz.prog w = .ok (strV (a ++ b)) w := by
  rw [run_string_add_sum w _ _ (by rw [str_size, str_size]; exact h), ba_add]
end Go.Proofs.YtldjgpnbkbmgoaaGreatDoor

namespace Go.Proofs.YtldjgpnbkbmgoaaGreatDoor
open Go.RowKit Go.Lib
attribute [local go_sem ↓] load_req stop_req
theorem grow_cell (w : World) (g i : Nat) (u : Value) : w.grownBy (w.setCell ⟨g, i, none⟩ u) (some g) :=
  ⟨rfl, rfl, rfl, by simp, fun k hk hne => Below.heap_setCell _ _ _ _ (fun e => hne (by rw [e]))⟩
theorem grow_drew {w : World} (n : Nat) (row : Option Nat) : w.grownBy (w.drewN n) row := ⟨rfl, rfl, rfl, Nat.le_refl _, fun _ _ _ => rfl⟩
theorem getD_lt (l : List UInt8) (i : Nat) (h : i < l.length) : l.getD i 0 = l[i] := by simp [List.getD_eq_getElem?_getD, h]
def UPost (w : World) (l : List UInt8) (e : Ending) (w' : World) : Prop :=
  ∃ v, e = .returned (.tuple #[v, .bool (unhex l).2]) ∧ Own byC 1 5 w' w.heap.size v (unhex l).1 ∧ Below w.heap.size w w'
def unhN : Nat → List UInt8 → Option (List UInt8)
  | 0, _ => some []
  | k + 1, l => match unhN k l with
    | none => none
    | some out => if hv (l.getD (2 * k) 0) < 16 ∧ hv (l.getD (2 * k + 1) 0) < 16 then some (out ++ [UInt8.ofNat (16 * hv (l.getD (2 * k) 0) + hv (l.getD (2 * k + 1) 0))]) else none
theorem unhN_shift : ∀ (k : Nat) (a b : UInt8) (l : List UInt8), hv a < 16 ∧ hv b < 16 → unhN (k + 1) (a :: b :: l) = (unhN k l).map (UInt8.ofNat (16 * hv a + hv b) :: ·)
  | 0, a, b, l, h => by simp [unhN, h]
  | k + 1, a, b, l, h => by
    rw [unhN, unhN_shift k a b l h]
    cases hk : unhN k l with
    | none => simp [unhN, hk]
    | some out =>
      have e1 : (a :: b :: l).getD (2 * (k + 1)) 0 = l.getD (2 * k) 0 := by
        rw [show 2 * (k + 1) = 2 * k + 1 + 1 by omega]; rfl
      have e2 : (a :: b :: l).getD (2 * (k + 1) + 1) 0 = l.getD (2 * k + 1) 0 := by
        rw [show 2 * (k + 1) + 1 = 2 * k + 1 + 1 + 1 by omega]; rfl
      simp only [Option.map_some, e1, e2, unhN, hk]
      split <;> simp
theorem unhN_bad : ∀ (k : Nat) (a b : UInt8) (l : List UInt8), ¬ (hv a < 16 ∧ hv b < 16) → unhN (k + 1) (a :: b :: l) = none
  | 0, a, b, l, h => by
    simp [unhN]
    intro h1
    omega
  | k + 1, a, b, l, h => by rw [unhN, unhN_bad k a b l h]
theorem unhN_all : ∀ (n : Nat) (l : List UInt8), l.length ≤ n → unhN (l.length / 2) l = unhF l
  | _, [], _ => rfl
  | _, [a], _ => by simp [unhN, unhF]
  | 0, a :: b :: l, h => by simp at h
  | n + 1, a :: b :: l, h => by
    have hl : (a :: b :: l).length / 2 = l.length / 2 + 1 := by simp; omega
    rw [hl, unhF]
    split
    · rename_i hc
      rw [unhN_shift _ _ _ _ hc, unhN_all n l (by simp at h; omega)]
    · rename_i hc
      exact unhN_bad _ _ _ _ hc
theorem unhN_len : ∀ (k : Nat) (l out : List UInt8), unhN k l = some out → out.length = k
  | 0, l, out, h => by simp only [unhN, Option.some.injEq] at h; subst h; rfl
  | k + 1, l, out, h => by
    unfold unhN at h
    cases hk : unhN k l with
    | none => rw [hk] at h; cases h
    | some o =>
      rw [hk] at h
      simp only at h
      split at h
      · simp only [Option.some.injEq] at h
        subst h
        simp [unhN_len k l o hk]
      · cases h
theorem unhN_none : ∀ (j k : Nat) (l : List UInt8), unhN k l = none → unhN (k + j) l = none
  | 0, k, l, h => h
  | j + 1, k, l, h => by rw [show k + (j + 1) = (k + j) + 1 by omega, unhN, unhN_none j k l h]
theorem run_strcut (l : List UInt8) (i j : Nat) (h : i ≤ j) (hj : j ≤ l.length) (w : World) : (Instr.slice 9 (strV l) (some (.int .i64 (i : Int))) (some (.int .i64 (j : Int))) none).run Tryz.prog w = .ok (strV ((l.take j).drop i)) w := by
  have hz := str_size l
  simp [Instr.slice, run_underlying Tryz.underlying9, Instr.sliceBounds, Instr.sliceBound, asIntOf, go_sem, hz, h, hj]
  exact Value.string.inj (str_cut l i j)
theorem unhex_ok (l : List UInt8) (w : World) (hl : l.length ≤ 1000000) : Calls Tryz.prog 57 #[strV l] w (UPost w l) := by
  have hz := str_size l
  by_cases h45 : l = [45]
  · subst h45
    go_enter Tryz.func57, Tryz.ntmps57
    go_wp2_with fail
    go_ret2
    exact ⟨_, rfl, Own.nil, Below.refl _ _⟩
  · have hne : (l == [45]) = false := by simpa using h45
    have HU := Lib.hid (show unhex l = match unhF l with | none => ([], false) | some o => (o, decide (0 < o.length) && decide (l.length % 2 = 0)) by unfold unhex; rw [if_neg h45]; cases unhF l <;> rfl)
    have HALL := Lib.hid (unhN_all l.length l (Nat.le_refl _))
    clear h45
    go_enter Tryz.func57, Tryz.ntmps57
    go_wp2_with fail
    go_loopw [4, 5] (fun ov iv wr => ∃ (k : Nat) (out : List UInt8) (A : Option Addr) (cap : Nat), 2 * k ≤ l.length ∧ iv = .int .i64 ((2 * k : Nat) : Int) ∧ Hid (unhN k l = some out) ∧ out.length ≤ k ∧ ov = .slice A out.length cap ∧ Hid (Own byC 1 5 wr w.heap.size (.slice A out.length cap) out) ∧ Hid (Below w.heap.size w wr)) (fun _ iv _ => (l.length + 1 - Go.RowKit.intOf iv).toNat)
    case atStart => exact ⟨0, [], none, 0, by omega, rfl, Lib.hid rfl, Nat.le_refl _, rfl, Lib.hid Own.nil, Lib.hid (Below.refl _ _)⟩
    case round =>
      obtain ⟨k, out, A, cap, hk, rfl, HN, hol, rfl, HO, HW⟩ := hrel
      have hsz := HW.out.size
      have c2 : ((2 * k : Nat) : Int) = 2 * (k : Int) := by omega
      by_cases hlt : 2 * k + 1 < l.length
      · have hlt2 : 2 * (k : Int) + 1 < (l.length : Int) := by omega
        have hle2 : 2 * (k : Int) + 2 ≤ (l.length : Int) := by omega
        obtain ⟨a, ha⟩ : ∃ a, a = l.getD (2 * k) 0 := ⟨_, rfl⟩
        obtain ⟨b, hb⟩ : ∃ b, b = l.getD (2 * k + 1) 0 := ⟨_, rfl⟩
        have hcut : (l.take (2 * k + 2)).drop (2 * k) = [a, b] := by
          rw [ha, hb, getD_lt l (2 * k) (by omega), getD_lt l (2 * k + 1) hlt, List.drop_take, show 2 * k + 2 - 2 * k = 2 by omega, List.drop_eq_getElem_cons (show 2 * k < l.length by omega), List.drop_eq_getElem_cons hlt]
          rfl
        have hsl : ∀ w, (Instr.slice 9 (strV l) (some (.int .i64 (2 * (k : Int)))) (some (.int .i64 (2 * (k : Int) + 2))) none).run Tryz.prog w = .ok (strV [a, b]) w := fun w => by
          have := run_strcut l (2 * k) (2 * k + 2) (by omega) (by omega) w
          rw [hcut] at this
          simpa using this
        have HAB := Lib.hid (And.intro ha hb)
        have HX := Lib.hid (fun w => readhex_ok ([48, 48, 48, 48, 48, 48, 48, 48, 48, 48, 48, 48, 48, 48] ++ [a, b]) w (by unfold maxLen; simp))
        have HV := Lib.hid (rhex_two a b)
        have hav := hv_le a
        have hbv := hv_le b
        have e1 : ∀ w, (Op.stringOp .add ⟨#[48, 48, 48, 48, 48, 48, 48, 48, 48, 48, 48, 48, 48, 48]⟩ ⟨#[a, b]⟩).run Tryz.prog w = .ok (strV ([48, 48, 48, 48, 48, 48, 48, 48, 48, 48, 48, 48, 48, 48] ++ [a, b])) w := fun w => str_add [48, 48, 48, 48, 48, 48, 48, 48, 48, 48, 48, 48, 48, 48] [a, b] (by simp) w
        obtain ⟨t, ht⟩ : ∃ t, t = ([48, 48, 48, 48, 48, 48, 48, 48, 48, 48, 48, 48, 48, 48] ++ [a, b] : List UInt8) := ⟨_, rfl⟩
        rw [← ht] at e1 HX HV
        clear ha hb ht hcut
        by_cases hg : hv a < 16 ∧ hv b < 16
        · rw [if_pos hg] at HV
          have hN := Lib.hid (show unhN (k + 1) l = some (out ++ [UInt8.ofNat (16 * hv a + hv b)]) by rw [unhN, HN.out]; simp only [← HAB.out.1, ← HAB.out.2]; rw [if_pos hg])
          obtain ⟨c, hcv⟩ : ∃ c : UInt8, c.toNat = 16 * hv a + hv b := ⟨UInt8.ofNat (16 * hv a + hv b), by simp; omega⟩
          have hce : UInt8.ofNat (16 * hv a + hv b) = c := by rw [← hcv]; simp
          rw [← hcv] at HV
          rw [hce] at hN
          have hcl := c.toNat_lt
          have hwr : IntKind.u8.wrap (c.toNat : Int) = (c.toNat : Int) := by rw [IntKind.wrap_u8]; omega
          rw [HV.out] at HX
          clear hg hcv hce hav hbv
          go_wp2_with fail
          refine (HX.out _).mono ?_
          rintro e w' ⟨rfl, hw'⟩
          rw [hw']
          clear hw' w'
          go_wp2_with (at_builtin; refine app_one by_elem by_enc rfl (.tmp 29) (.tmp 32) rfl rfl (HO.out.alloc _) c wr.heap.size 1 rfl (Blk.lay (Blk.new _ _ _)) (by unfold maxLen; omega) (by omega) (by simp; omega) ?_; intro g' cap' w1 hown1 hgrow hat hlt1)
          have HO1 := Lib.hid hown1
          have HW1 := Lib.hid ((HW.out.alloc hsz _).grown hgrow (by simp; omega) (fun b hb => (HO.out.lt b hb).1))
          clear hown1 hgrow hat
          go_roundw
          case rel => exact ⟨k + 1, out ++ [c], some ⟨g', 0, none⟩, cap', by omega, by go_num, hN, by simp; omega, by simp, Lib.hid (by simpa using HO1.out), HW1⟩
          case measure => simp [Go.RowKit.intOf]; omega
        · rw [if_neg hg] at HV
          rw [HV.out] at HX
          have hN := unhN_none (l.length / 2 - (k + 1)) (k + 1) l (by rw [unhN, HN.out]; simp only [← HAB.out.1, ← HAB.out.2]; rw [if_neg hg])
          rw [show k + 1 + (l.length / 2 - (k + 1)) = l.length / 2 by omega, HALL.out] at hN
          have HF := Lib.hid (show unhex l = ([], false) by rw [HU.out, hN])
          unfold UPost
          rw [HF.out]
          clear hg hN hav hbv
          go_wp2_with fail
          refine (HX.out _).mono ?_
          rintro e w' ⟨rfl, hw'⟩
          rw [hw']
          clear hw' w'
          go_wp2_with fail
          go_ret2
          exact ⟨_, rfl, Own.nil, HW.out⟩
      · have hkk : k = l.length / 2 := by omega
        have hN : unhF l = some out := by rw [← HALL.out, ← hkk, HN.out]
        have hol2 := unhN_len k l out HN.out
        have HF := Lib.hid (show unhex l = (out, decide (0 < out.length) && decide (l.length % 2 = 0)) by rw [HU.out, hN])
        unfold UPost
        rw [HF.out]
        have hge : ¬ 2 * (k : Int) + 1 < (l.length : Int) := by omega
        clear hN hkk hol2
        by_cases p1 : 0 < out.length
        · by_cases p2 : l.length % 2 = 0
          · have k2 : ((l.length : Int) % 2 == 0) = true := by rw [beq_iff_eq]; omega
            have HBB := Lib.hid (show unhex l = (out, true) by rw [HF.out]; simp [p1, p2])
            go_wp2_with fail
            go_ret2
            exact ⟨.slice A out.length cap, by rw [HBB.out]; rfl, by rw [HBB.out]; exact HO.out, HW.out⟩
          · have k2 : ((l.length : Int) % 2 == 0) = false := by rw [beq_eq_false_iff_ne]; omega
            have HBB := Lib.hid (show unhex l = (out, false) by rw [HF.out]; simp [p2])
            go_wp2_with fail
            go_ret2
            exact ⟨.slice A out.length cap, by rw [HBB.out]; rfl, by rw [HBB.out]; exact HO.out, HW.out⟩
        · have HBB := Lib.hid (show unhex l = (out, false) by rw [HF.out]; simp [p1])
          go_wp2_with fail
          go_ret2
          exact ⟨.slice A out.length cap, by rw [HBB.out]; rfl, by rw [HBB.out]; exact HO.out, HW.out⟩
def RdB (w : World) (g : Nat) (r : HRd) : Prop := Blk w g 81 #[strV r.1, .bool r.2]
theorem RdB.lt {w : World} {g : Nat} {r : HRd} (h : RdB w g r) : g < w.heap.size := Blk.lt h
theorem RdB.below {w w' : World} {g : Nat} {r : HRd} (h : RdB w g r) (hb : Below w.heap.size w w') : RdB w' g r := Blk.below h hb h.lt
theorem RdB.rest {w : World} {g : Nat} {r : HRd} (h : RdB w g r) : w.cell? ⟨g, 0, none⟩ = some (strV r.1) := Blk.is h 0 rfl
theorem RdB.bad {w : World} {g : Nat} {r : HRd} (h : RdB w g r) : w.cell? ⟨g, 1, none⟩ = some (.bool r.2) := Blk.is h 1 rfl
theorem RdB.fz {w : World} {g i : Nat} {r : HRd} (h : RdB w g r) : w.frozen? ⟨g, i, none⟩ = false := Blk.frozen h i
theorem RdB.put0 {w : World} {g : Nat} {r : HRd} (h : RdB w g r) (t : List UInt8) : RdB (w.setCell ⟨g, 0, none⟩ (strV t)) g (t, r.2) := Blk.put h 0 _
theorem RdB.put1 {w : World} {g : Nat} {r : HRd} (h : RdB w g r) (b : Bool) : RdB (w.setCell ⟨g, 1, none⟩ (.bool b)) g (r.1, b) := Blk.put h 1 _
def HWPost (w : World) (g : Nat) (v : Value) (r : HRd) (e : Ending) (w' : World) : Prop := e = .returned v ∧ RdB w' g r ∧ w.grownBy w' (some g)
theorem grown_to {a b c : World} {g : Nat} (h : a.grownBy b (some g)) (k : b.grownBy c (some g)) : a.grownBy c (some g) :=
  ⟨k.os.trans h.os, k.tape.trans h.tape, k.output.trans h.output, Nat.le_trans h.size k.size, fun i hi hne => (k.block i (Nat.lt_of_lt_of_le hi h.size) hne).trans (h.block i hi hne)⟩
theorem grown_below {a b : World} (h : Below a.heap.size a b) (row : Option Nat) : a.grownBy b row := ⟨h.os, h.tape, h.output, h.size, fun i hi _ => h.block i hi⟩
theorem hword_ok (w : World) (g : Nat) (r : HRd) (h : RdB w g r) (hl : r.1.length ≤ 1000000) : Calls Tryz.prog 35 #[.pointer (some ⟨g, 0, none⟩)] w (HWPost w g (strV (cutC 32 r.1).1) ((cutC 32 r.1).2.1, r.2)) := by
  have HC := Lib.hid (cut_ok 32 r.1 w (by omega))
  have c0 := h.rest
  have H := Lib.hid h
  clear h
  go_enter Tryz.func35, Tryz.ntmps35
  go_wp2_with fail
  refine HC.out.mono ?_
  rintro e w' ⟨rfl, n, rfl⟩
  have hf : (w.drewN n).frozen? ⟨g, 0, none⟩ = false := H.out.fz
  have hc : (w.drewN n).cell? ⟨g, 0, none⟩ = some (strV r.1) := c0
  have hlt : g < (w.drewN n).heap.size := H.out.lt
  go_wp2_with fail
  go_ret
  exact ⟨rfl, RdB.put0 (w := w.drewN n) (r := r) (show RdB (w.drewN n) g r from H.out) _, grown_to (grow_drew n (some g)) (grow_cell _ g 0 _)⟩
theorem hnumber_ok (w : World) (g : Nat) (r : HRd) (h : RdB w g r) (hl : r.1.length ≤ 1000000) : Calls Tryz.prog 36 #[.pointer (some ⟨g, 0, none⟩)] w (HWPost w g (.int .i64 (rdNum r).1) (rdNum r).2) := by
  have hw := cutC_word 32 r.1
  have HW := Lib.hid (hword_ok w g r h hl)
  have HP := Lib.hid (fun w => parse_ok (cutC 32 r.1).1 w (by unfold maxLen; omega))
  have hlt := par_lt (cutC 32 r.1).1
  obtain ⟨p, hp⟩ : ∃ p, par (cutC 32 r.1).1 = p := ⟨_, rfl⟩
  have HR := Lib.hid (show rdNum r = if p.2 ≠ 0 ∨ 4294967295 < p.1 then (0, ((cutC 32 r.1).2.1, true)) else ((p.1 : Int), ((cutC 32 r.1).2.1, r.2)) by unfold rdNum; rw [hp])
  rw [hp] at HP hlt
  obtain ⟨n, e⟩ := p
  simp only at HP hlt HR
  clear h hw hp
  by_cases he : e = 0
  · subst he
    by_cases hn : 4294967295 < n
    · have HF := Lib.hid (show rdNum r = (0, ((cutC 32 r.1).2.1, true)) by rw [HR.out, if_pos (.inr hn)])
      rw [HF.out]
      go_enter Tryz.func36, Tryz.ntmps36
      go_wp2_with fail
      refine HW.out.mono ?_
      rintro e w1 ⟨rfl, hr, hg⟩
      have H1 := Lib.hid hr
      have G1 := Lib.hid hg
      have hf : w1.frozen? ⟨g, 1, none⟩ = false := hr.fz
      have hc : w1.cell? ⟨g, 1, none⟩ = some (.bool r.2) := hr.bad
      have hlt1 := hr.lt
      clear hr hg
      go_wp2_with fail
      refine (HP.out _).mono ?_
      rintro e w2 ⟨rfl, rfl⟩
      go_wp2_with fail
      go_ret
      exact ⟨rfl, H1.out.put1 true, grown_to G1.out (grow_cell _ g 1 _)⟩
    · have HF := Lib.hid (show rdNum r = ((n : Int), ((cutC 32 r.1).2.1, r.2)) by rw [HR.out, if_neg (by simp; omega)])
      rw [HF.out]
      go_enter Tryz.func36, Tryz.ntmps36
      go_wp2_with fail
      refine HW.out.mono ?_
      rintro e w1 ⟨rfl, hr, hg⟩
      have H1 := Lib.hid hr
      have G1 := Lib.hid hg
      clear hr hg
      go_wp2_with fail
      refine (HP.out _).mono ?_
      rintro e w2 ⟨rfl, rfl⟩
      have hwr : IntKind.i64.wrap (n : Int) = (n : Int) := by rw [IntKind.wrap_i64]; omega
      go_wp2_with fail
      go_ret
      exact ⟨rfl, H1.out, G1.out⟩
  · have HF := Lib.hid (show rdNum r = (0, ((cutC 32 r.1).2.1, true)) by rw [HR.out, if_pos (.inl he)])
    rw [HF.out]
    have hb : (e != 0) = true := by simpa using he
    clear he
    go_enter Tryz.func36, Tryz.ntmps36
    go_wp2_with fail
    refine HW.out.mono ?_
    rintro e w1 ⟨rfl, hr, hg⟩
    have H1 := Lib.hid hr
    have G1 := Lib.hid hg
    have hf : w1.frozen? ⟨g, 1, none⟩ = false := hr.fz
    have hc : w1.cell? ⟨g, 1, none⟩ = some (.bool r.2) := hr.bad
    have hlt1 := hr.lt
    clear hr hg
    go_wp2_with fail
    refine (HP.out _).mono ?_
    rintro e w2 ⟨rfl, rfl⟩
    go_wp2_with fail
    go_ret
    exact ⟨rfl, H1.out.put1 true, grown_to G1.out (grow_cell _ g 1 _)⟩
theorem hdraw_ok (w : World) (g : Nat) (r : HRd) (h : RdB w g r) (hl : r.1.length ≤ 1000000) : Calls Tryz.prog 38 #[.pointer (some ⟨g, 0, none⟩)] w (HWPost w g (.int .u64 (rdDraw r).1) (rdDraw r).2) := by
  have hw := cutC_word 32 r.1
  have HW := Lib.hid (hword_ok w g r h hl)
  have HP := Lib.hid (fun w => readhex_ok (cutC 32 r.1).1 w (by unfold maxLen; omega))
  obtain ⟨p, hp⟩ : ∃ p, rhex (cutC 32 r.1).1 = p := ⟨_, rfl⟩
  have HR := Lib.hid (show rdDraw r = (p.1, ((cutC 32 r.1).2.1, r.2 || decide (p.2 ≠ 0))) by unfold rdDraw; rw [hp])
  rw [hp] at HP
  rw [HR.out]
  obtain ⟨n, e⟩ := p
  simp only at HP ⊢
  clear h hw hp
  cases hr2 : r.2
  · have hd : (e != 0) = decide (e ≠ 0) := by rw [Bool.eq_iff_iff]; simp
    go_enter Tryz.func38, Tryz.ntmps38
    go_wp2_with fail
    refine HW.out.mono ?_
    rintro e' w1 ⟨rfl, hr, hg⟩
    have H1 := Lib.hid hr
    have G1 := Lib.hid hg
    have hf : w1.frozen? ⟨g, 1, none⟩ = false := hr.fz
    have hc : w1.cell? ⟨g, 1, none⟩ = some (.bool false) := by rw [← hr2]; exact hr.bad
    have hlt1 := hr.lt
    clear hr hg
    go_wp2_with fail
    refine (HP.out _).mono ?_
    rintro e' w2 ⟨rfl, rfl⟩
    go_wp2_with fail
    go_ret
    refine ⟨rfl, ?_, grown_to G1.out (grow_cell _ g 1 _)⟩
    have h2 := H1.out.put1 (decide (e ≠ 0))
    first | simpa [hd] using h2 | (simp only [Bool.false_or]; rw [hd]; exact h2)
  · go_enter Tryz.func38, Tryz.ntmps38
    go_wp2_with fail
    refine HW.out.mono ?_
    rintro e' w1 ⟨rfl, hr, hg⟩
    have H1 := Lib.hid hr
    have G1 := Lib.hid hg
    have hf : w1.frozen? ⟨g, 1, none⟩ = false := hr.fz
    have hc : w1.cell? ⟨g, 1, none⟩ = some (.bool true) := by rw [← hr2]; exact hr.bad
    have hlt1 := hr.lt
    clear hr hg
    go_wp2_with fail
    refine (HP.out _).mono ?_
    rintro e' w2 ⟨rfl, rfl⟩
    go_wp2_with fail
    go_ret
    refine ⟨rfl, ?_, grown_to G1.out (grow_cell _ g 1 _)⟩
    have h2 := H1.out.put1 true
    simpa using h2
def NPost2 (w : World) (g : Nat) (r : HRd) (e : Ending) (w' : World) : Prop := ∃ v, e = .returned v ∧ Own byC 1 5 w' w.heap.size v (rdBytes r).1 ∧ RdB w' g (rdBytes r).2 ∧ w.grownBy w' (some g)
theorem hbytes_ok (w : World) (g : Nat) (r : HRd) (h : RdB w g r) (hl : r.1.length ≤ 1000000) : Calls Tryz.prog 37 #[.pointer (some ⟨g, 0, none⟩)] w (NPost2 w g r) := by
  have hw := cutC_word 32 r.1
  have HW := Lib.hid (hword_ok w g r h hl)
  have HP := Lib.hid (fun w => unhex_ok (cutC 32 r.1).1 w (by omega))
  unfold UPost at HP
  obtain ⟨p, hp⟩ : ∃ p, unhex (cutC 32 r.1).1 = p := ⟨_, rfl⟩
  have HR := Lib.hid (show rdBytes r = (p.1, ((cutC 32 r.1).2.1, r.2 || !p.2)) by unfold rdBytes; rw [hp])
  rw [hp] at HP
  unfold NPost2
  rw [HR.out]
  obtain ⟨o, b⟩ := p
  simp only at HP ⊢
  clear h hw hp
  cases hr2 : r.2
  all_goals
    go_enter Tryz.func37, Tryz.ntmps37
    go_wp2_with fail
    refine HW.out.mono ?_
    rintro e' w1 ⟨rfl, hr, hg⟩
    have H1 := Lib.hid hr
    have G1 := Lib.hid hg
    clear hr hg
    go_wp2_with fail
    refine (HP.out _).mono ?_
    rintro e' w2 ⟨v, rfl, ho, hb⟩
    have hr := H1.out.below hb
    have H2 := Lib.hid hr
    have G2 := Lib.hid (grown_to G1.out (grown_below hb (some g)))
    have hsz := G1.out.size
    have HO := Lib.hid (ho.more hsz)
    have HNE := Lib.hid (ho.ne_blk hr (by decide))
    have hf : w2.frozen? ⟨g, 1, none⟩ = false := hr.fz
    have hc := hr.bad
    simp only [hr2] at hc
    have hlt1 := hr.lt
    clear hr hb ho
    go_wp2_with fail
    go_ret
    refine ⟨_, rfl, HO.out.set _ HNE.out, ?_, grown_to G2.out (grow_cell _ g 1 _)⟩
    first | simpa [hr2] using H2.out.put1 true | simpa [hr2] using H2.out.put1 (!b)
theorem hsecret_ok (l : List UInt8) (w : World) (hl : l.length ≤ 1000000) : Calls Tryz.prog 20 #[strV l] w fun e w' => e = .returned (.tuple #[.int .u64 ((secL l).1 : Nat), .bool (secL l).2]) ∧ Below w.heap.size w w' := by
  have hw := cutC_rest 32 l
  have HC := Lib.hid (cut_ok 32 l w (by omega))
  have HP := Lib.hid (fun w => readhex_ok (cutC 32 l).2.1 w (by unfold maxLen; omega))
  have HR := Lib.hid (show secL l = ((rhex (cutC 32 l).2.1).1, decide ((cutC 32 l).1 = wSecret) && (decide ((rhex (cutC 32 l).2.1).2 = 0) && decide ((rhex (cutC 32 l).2.1).1 ≠ 0))) from rfl)
  rw [HR.out]
  obtain ⟨p, hp⟩ : ∃ p, rhex (cutC 32 l).2.1 = p := ⟨_, rfl⟩
  obtain ⟨t, ht⟩ : ∃ t, (cutC 32 l).1 = t := ⟨_, rfl⟩
  rw [hp] at HP ⊢
  rw [ht]
  obtain ⟨n, e⟩ := p
  simp only at HP ⊢
  have HT := Lib.hid ht
  clear hw hp ht
  by_cases h1 : t = wSecret
  · have k1 : (t == [115, 101, 99, 114, 101, 116]) = true := by rw [h1]; rfl
    by_cases h2 : e = 0
    · by_cases h3 : n = 0
      · subst h2; subst h3
        clear h1
        go_enter Tryz.func20, Tryz.ntmps20
        go_wp2_with fail
        refine HC.out.mono ?_
        rintro e' w' ⟨rfl, m, rfl⟩
        rw [HT.out]
        go_wp2_with fail
        refine (HP.out _).mono ?_
        rintro e' w2 ⟨rfl, rfl⟩
        go_wp2_with fail
        go_ret2
        exact ⟨by simp, below_drewN (Below.refl _ _) m⟩
      · have k3 : ((n : Int) != 0) = true := by simpa using h3
        subst h2
        have HD := Lib.hid (show (decide (t = wSecret) && (decide ((0 : Int) = 0) && decide (n ≠ 0))) = true by simp [h1, h3])
        rw [HD.out]
        clear h1 h3
        go_enter Tryz.func20, Tryz.ntmps20
        go_wp2_with fail
        refine HC.out.mono ?_
        rintro e' w' ⟨rfl, m, rfl⟩
        rw [HT.out]
        go_wp2_with fail
        refine (HP.out _).mono ?_
        rintro e' w2 ⟨rfl, rfl⟩
        go_wp2_with fail
        go_ret2
        exact ⟨rfl, below_drewN (Below.refl _ _) m⟩
    · have k2 : (e == 0) = false := by simpa using h2
      have HD := Lib.hid (show (decide (t = wSecret) && (decide (e = 0) && decide (n ≠ 0))) = false by simp [h2])
      rw [HD.out]
      clear h1 h2
      go_enter Tryz.func20, Tryz.ntmps20
      go_wp2_with fail
      refine HC.out.mono ?_
      rintro e' w' ⟨rfl, m, rfl⟩
      rw [HT.out]
      go_wp2_with fail
      refine (HP.out _).mono ?_
      rintro e' w2 ⟨rfl, rfl⟩
      go_wp2_with fail
      go_ret2
      exact ⟨rfl, below_drewN (Below.refl _ _) m⟩
  · have k1 : (t == [115, 101, 99, 114, 101, 116]) = false := by simpa [wSecret] using h1
    have HD := Lib.hid (show (decide (t = wSecret) && (decide (e = 0) && decide (n ≠ 0))) = false by simp [h1])
    rw [HD.out]
    clear h1
    go_enter Tryz.func20, Tryz.ntmps20
    go_wp2_with fail
    refine HC.out.mono ?_
    rintro e' w' ⟨rfl, m, rfl⟩
    rw [HT.out]
    go_wp2_with fail
    refine (HP.out _).mono ?_
    rintro e' w2 ⟨rfl, rfl⟩
    go_wp2_with fail
    go_ret2
    exact ⟨rfl, below_drewN (Below.refl _ _) m⟩
end Go.Proofs.YtldjgpnbkbmgoaaGreatDoor

namespace Go.Proofs.YtldjgpnbkbmgoaaGreatDoor
open Go.RowKit Go.Lib
attribute [local go_sem ↓] load_req stop_req
theorem hsmall_ok (n : Int) (w : World) : Calls Tryz.prog 42 #[.int .i64 n] w (SPost w (smallT n)) := by
  have HC := Lib.hid (fun w => ntext_eq (IntKind.u64.wrap n) (u64n n) (u64n_wrap n) (u64n_lt n) w)
  go_enter Tryz.func42, Tryz.ntmps42
  go_wp2_with fail
  refine (HC.out _).mono ?_
  rintro e w1 ⟨rfl, hb⟩
  have HB := Lib.hid hb
  clear hb
  go_wp2_with fail
  go_ret
  exact ⟨rfl, HB.out⟩
def twoD (c : UInt8) : List UInt8 := [hd (c.toNat / 16), hd (c.toNat % 16)]
def hexP (l : List UInt8) : List UInt8 := l.flatMap twoD
theorem hexP_snoc (l : List UInt8) (c : UInt8) : hexP (l ++ [c]) = hexP l ++ twoD c := by simp [hexP]
theorem hexP_len (l : List UInt8) : (hexP l).length = 2 * l.length := by
  induction l with
  | nil => rfl
  | cons a l ih =>
    have : hexP (a :: l) = twoD a ++ hexP l := by simp [hexP]
    rw [this, List.length_append, ih]
    simp [twoD]
    omega
theorem hexB_P {l : List UInt8} (h : l ≠ []) : hexB l = hexP l := by unfold hexB; rw [if_neg h]; rfl
theorem hexB_len (l : List UInt8) : (hexB l).length ≤ 2 * l.length + 1 := by
  by_cases h : l = []
  · subst h; decide
  · rw [hexB_P h, hexP_len]; omega
theorem hex_cut (c : UInt8) (w : World) : (Instr.slice 9 (strV (hexT c.toNat)) (some (.int .i64 14)) none none).run Tryz.prog w = .ok (strV (twoD c)) w := by
  have h : (hexT c.toNat).length = 16 := hexF_len 16 _
  have hb := hexT_byte c.toNat c.toNat_lt
  obtain ⟨t, ht⟩ : ∃ t, t = hexT c.toNat := ⟨_, rfl⟩
  rw [← ht] at h hb ⊢
  have hz := str_size t
  simp [Instr.slice, run_underlying Tryz.underlying9, Instr.sliceBounds, Instr.sliceBound, asIntOf, go_sem, hz, h]
  rw [ba_cut]
  unfold twoD
  rw [← hb, List.take_of_length_le (by omega)]
theorem hhex_ok (l : List UInt8) (s : Value) (w : World) (hs : Sl byC w w.heap.size s l) (hl : l.length ≤ 100000) : Calls Tryz.prog 43 #[s] w (SPost w (hexB l)) := by
  obtain ⟨A, ca, rfl, h1, h2, h3⟩ := hs
  have H3 := Lib.hid h3
  clear h3 h2
  by_cases h0 : l = []
  · subst h0
    go_enter Tryz.func43, Tryz.ntmps43
    go_wp2_with fail
    go_ret
    exact ⟨rfl, Below.refl _ _⟩
  · have HP := Lib.hid (hexB_P h0)
    have hp : 0 < l.length := List.length_pos_iff.mpr h0
    have hz : ((l.length : Int) == 0) = false := by
      rw [beq_eq_false_iff_ne]; omega
    have hb1 := Bld.new w
    have hW1 := (Below.refl w.heap.size w).alloc (Nat.le_refl _) (.cells #[.pointer none, .slice none 0 0] 67)
    obtain ⟨w1, hst1⟩ : ∃ w1, w.alloc (.cells #[.pointer none, .slice none 0 0] 67) = w1 := ⟨_, rfl⟩
    rw [hst1] at hb1 hW1
    have HB1 := Lib.hid hb1
    have HW1 := Lib.hid hW1
    clear h0 hb1 hW1
    go_enter Tryz.func43, Tryz.ntmps43
    go_wp2_with fail
    go_loopw [11] (fun i wr => ∃ k : Nat, k ≤ l.length ∧ i = .int .i64 (k : Nat) ∧ Hid (Bld wr w.heap.size (hexP (l.take k))) ∧ Hid (Below w.heap.size w wr)) (fun i _ => (l.length - Go.RowKit.intOf i).toNat)
    case atStart => exact ⟨0, Nat.zero_le _, rfl, HB1, HW1⟩
    case round =>
      obtain ⟨k, hk, rfl, HB, HW⟩ := hrel
      by_cases hlt : k < l.length
      · obtain ⟨b, off, rfl, hb, hlay⟩ := H3.out (by omega)
        have x0 := ((hlay.of_heap (HW.out.block b hb)).elem byC_len k hlt).by
        rw [Nat.mul_one] at x0
        have HT := Lib.hid (List.take_succ_eq_append_getElem hlt)
        have hpl := hexP_len (l.take k)
        have hkl := List.length_take_le k l
        obtain ⟨c, hc⟩ : ∃ c, c = l[k] := ⟨_, rfl⟩
        rw [← hc] at x0 HT
        have hcl := c.toNat_lt
        have HX := Lib.hid (fun w => hex_ok c.toNat w (by omega))
        have HC := Lib.hid (fun w => hex_cut c w)
        obtain ⟨t, ht⟩ : ∃ t, t = hexT c.toNat := ⟨_, rfl⟩
        rw [← ht] at HX HC
        obtain ⟨p, hpp⟩ : ∃ p, p = hexP (l.take k) := ⟨_, rfl⟩
        rw [← hpp] at HB hpl
        have HPP := Lib.hid hpp
        have hpl2 : p.length ≤ 200000 := by omega
        clear hlay hc ht hpp hpl hkl
        go_wp2_with fail
        refine (HX.out _).mono ?_
        rintro e w2 ⟨rfl, hb2⟩
        have HB2 := Lib.hid (HB.out.below hb2)
        have HW2 := Lib.hid (HW.out.trans (hb2.mono HW.out.size))
        have hcut := HC.out
        clear hb2
        go_wp2_with fail
        refine (wstr_ok _ _ p (twoD c) HB2.out (by simp [twoD]; omega)).mono ?_
        rintro e w3 ⟨rfl, hb3, hw3⟩
        have HB3 := Lib.hid hb3
        have HW3 := Lib.hid (HW2.out.trans hw3)
        clear hb3 hw3 hcut
        go_wp2_with fail
        go_roundw
        case rel => exact ⟨k + 1, by omega, by go_num, Lib.hid (by rw [HT.out, hexP_snoc, ← HPP.out]; exact HB3.out), HW3⟩
        case measure => simp [Go.RowKit.intOf]; omega
      · obtain rfl : k = l.length := by omega
        rw [List.take_length] at HB
        go_wp2_with fail
        refine (bstr_ok _ _ _ HB.out).mono ?_
        rintro e w2 h
        have hh : e = .returned (strV (hexP l)) ∧ Below w.heap.size wr w2 := by
          exact ⟨h.1, h.2.2⟩
        obtain ⟨rfl, hb2⟩ := hh
        have HW2 := Lib.hid (HW.out.trans hb2)
        clear hb2 h
        go_wp2_with fail
        go_ret
        exact ⟨by rw [HP.out]; try rfl, HW2.out⟩
abbrev LB (w wx : World) (r : HRw) : Prop := HBx 62 w wx w.heap.size r
theorem LB.sl {w wx : World} {r : HRw} (h : LB w wx r) (hs : Sl byC w w.heap.size (.slice r.A r.x.bs.length r.cap) r.x.bs) : Sl byC wx wx.heap.size (.slice r.A r.x.bs.length r.cap) r.x.bs := (hs.below h.bel).more h.bel.size
theorem LB.to {w wx wy : World} {r : HRw} (h : LB w wx r) (hb : Below wx.heap.size wx wy) : LB w wy r := HBx.below h hb
theorem smallT_len (n : Int) : (smallT n).length ≤ 20 := txtF_len 19 _
theorem lineQ_len (q : Req) (h : encOk q = true) : (lineQ q).length ≤ 20000 := by
  have h1 := (enc_op h).2
  have h2 := line_few q 1600 (by omega) (by omega)
  have h3 := joinW_len 1600 (lineW q) h2.2
  have h4 := h2.1
  unfold lineQ
  have h5 : (lineW q).length * (1600 + 1) ≤ 12 * (1600 + 1) := Nat.mul_le_mul_right _ h4
  omega
theorem hline_1 (r : HRw) (w : World) (hk : r.x.kind = 1) (hs : Sl byC w w.heap.size (.slice r.A r.x.bs.length r.cap) r.x.bs) (hl : r.x.bs.length ≤ 500) : Calls Tryz.prog 24 #[.agg (hiA r)] w (SPost w (itT r.x)) := by
  have h1' : LB w _ r := HBx.new 62 w r
  obtain ⟨w1, hst1⟩ : ∃ w1, w.alloc (.cells (hiA r) 62) = w1 := ⟨_, rfl⟩
  rw [hst1] at h1'
  have f0 := h1'.kind
  have f1 := h1'.conn
  have f2 := h1'.bs
  rw [hk] at f0
  obtain ⟨a, ha⟩ : ∃ a, a = smallT r.x.conn := ⟨_, rfl⟩
  obtain ⟨h, hh⟩ : ∃ h, h = hexB r.x.bs := ⟨_, rfl⟩
  have la : a.length ≤ 20 := by rw [ha]; exact smallT_len _
  have lh : h.length ≤ 1001 := by rw [hh]; have := hexB_len r.x.bs; omega
  have HA := Lib.hid (fun w => hsmall_ok r.x.conn w)
  rw [← ha] at HA
  have HH := Lib.hid (fun wx (hx : LB w wx r) => hhex_ok r.x.bs _ wx (hx.sl hs) (by omega))
  rw [← hh] at HH
  obtain ⟨p1, g1⟩ : ∃ p, p = [102, 101, 101, 100, 32] ++ a := ⟨_, rfl⟩
  have e1 : ∀ w, (Op.stringOp .add ⟨#[102, 101, 101, 100, 32]⟩ ⟨a.toArray⟩).run Tryz.prog w = .ok (strV p1) w := fun w => by rw [g1]; exact str_add [102, 101, 101, 100, 32] a (by simp; omega) w
  obtain ⟨p2, g2⟩ : ∃ p, p = p1 ++ [32] := ⟨_, rfl⟩
  have e2 : ∀ w, (Op.stringOp .add ⟨p1.toArray⟩ ⟨#[32]⟩).run Tryz.prog w = .ok (strV p2) w := fun w => by rw [g2]; exact str_add p1 [32] (by simp [g1]; omega) w
  obtain ⟨p3, g3⟩ : ∃ p, p = p2 ++ h := ⟨_, rfl⟩
  have e3 : ∀ w, (Op.stringOp .add ⟨p2.toArray⟩ ⟨h.toArray⟩).run Tryz.prog w = .ok (strV p3) w := fun w => by rw [g3]; exact str_add p2 h (by simp [g1, g2]; omega) w
  have HT := Lib.hid (show itT r.x = p3 by unfold itT; rw [if_pos hk, g3, g2, g1, ha, hh]; simp [wFeed])
  have HSB := Lib.hid (fun wx (hx : LB w wx r) => (⟨hx.conn, hx.bs⟩ : wx.cell? ⟨w.heap.size, 1, none⟩ = some (.int .i64 r.x.conn) ∧ wx.cell? ⟨w.heap.size, 2, none⟩ = some (.slice r.A r.x.bs.length r.cap)))
  have h1d : LB w w1.drew r := h1'.drew
  clear g1 g2 g3 ha hh la lh hs hl hk
  go_enter Tryz.func24, Tryz.ntmps24
  go_wp2_with fail
  go_region_held3 (fun wx => wx.cell? ⟨w.heap.size, 1, none⟩ = some (.int .i64 r.x.conn) ∧ wx.cell? ⟨w.heap.size, 2, none⟩ = some (.slice r.A r.x.bs.length r.cap)) (first | go_keep | exact HSB.out _ (by assumption)) (first
    | ((with_reducible refine (HA.out _).mono ?_); rintro e wa ⟨rfl, hba⟩; have hxa := LB.to (r := r) (w := w) (by assumption) hba; clear hba)
    | ((with_reducible refine (HH.out _ (by assumption)).mono ?_); rintro e wb ⟨rfl, hbb⟩; have hxb := LB.to (r := r) (w := w) (by assumption) hbb; clear hbb))
  all_goals
    go_wp2_with fail
    go_ret
    exact ⟨by rw [HT.out]; try rfl, HBx.bel (T := 62) (g := w.heap.size) (r := r) (by assumption)⟩
theorem hline_2 (r : HRw) (w : World) (hk : r.x.kind = 2) (hd : r.x.fits) : Calls Tryz.prog 24 #[.agg (hiA r)] w (SPost w (itT r.x)) := by
  have h1' : LB w _ r := HBx.new 62 w r
  obtain ⟨w1, hst1⟩ : ∃ w1, w.alloc (.cells (hiA r) 62) = w1 := ⟨_, rfl⟩
  rw [hst1] at h1'
  have f0 := h1'.kind
  have f1 := h1'.conn
  have f3 := h1'.draw
  rw [hk] at f0
  obtain ⟨a, ha⟩ : ∃ a, a = smallT r.x.conn := ⟨_, rfl⟩
  obtain ⟨h, hh⟩ : ∃ h, h = hexT r.x.draw := ⟨_, rfl⟩
  have la : a.length ≤ 20 := by rw [ha]; exact smallT_len _
  have lh : h.length = 16 := by rw [hh]; exact hexF_len 16 _
  have HA := Lib.hid (fun w => hsmall_ok r.x.conn w)
  rw [← ha] at HA
  have HH := Lib.hid (fun w => hex_ok r.x.draw w hd)
  rw [← hh] at HH
  obtain ⟨p1, g1⟩ : ∃ p, p = [112, 105, 99, 107, 32] ++ a := ⟨_, rfl⟩
  have e1 : ∀ w, (Op.stringOp .add ⟨#[112, 105, 99, 107, 32]⟩ ⟨a.toArray⟩).run Tryz.prog w = .ok (strV p1) w := fun w => by rw [g1]; exact str_add [112, 105, 99, 107, 32] a (by simp; omega) w
  obtain ⟨p2, g2⟩ : ∃ p, p = p1 ++ [32] := ⟨_, rfl⟩
  have e2 : ∀ w, (Op.stringOp .add ⟨p1.toArray⟩ ⟨#[32]⟩).run Tryz.prog w = .ok (strV p2) w := fun w => by rw [g2]; exact str_add p1 [32] (by simp [g1]; omega) w
  obtain ⟨p3, g3⟩ : ∃ p, p = p2 ++ h := ⟨_, rfl⟩
  have e3 : ∀ w, (Op.stringOp .add ⟨p2.toArray⟩ ⟨h.toArray⟩).run Tryz.prog w = .ok (strV p3) w := fun w => by rw [g3]; exact str_add p2 h (by simp [g1, g2]; omega) w
  have HT := Lib.hid (show itT r.x = p3 by unfold itT; rw [if_neg (by rw [hk]; decide), if_pos hk, g3, g2, g1, ha, hh]; simp [wPick])
  have HSB := Lib.hid (fun wx (hx : LB w wx r) => (⟨hx.conn, hx.draw⟩ : wx.cell? ⟨w.heap.size, 1, none⟩ = some (.int .i64 r.x.conn) ∧ wx.cell? ⟨w.heap.size, 3, none⟩ = some (.int .u64 (r.x.draw : Nat))))
  have h1d : LB w w1.drew r := h1'.drew
  clear g1 g2 g3 ha hh la lh hd hk
  go_enter Tryz.func24, Tryz.ntmps24
  go_wp2_with fail
  go_region_held3 (fun wx => wx.cell? ⟨w.heap.size, 1, none⟩ = some (.int .i64 r.x.conn) ∧ wx.cell? ⟨w.heap.size, 3, none⟩ = some (.int .u64 (r.x.draw : Nat))) (first | go_keep | exact HSB.out _ (by assumption)) (first
    | ((with_reducible refine (HA.out _).mono ?_); rintro e wa ⟨rfl, hba⟩; have hxa := LB.to (r := r) (w := w) (by assumption) hba; clear hba)
    | ((with_reducible refine (HH.out _).mono ?_); rintro e wb ⟨rfl, hbb⟩; have hxb := LB.to (r := r) (w := w) (by assumption) hbb; clear hbb))
  all_goals
    go_wp2_with fail
    go_ret
    exact ⟨by rw [HT.out]; try rfl, HBx.bel (T := 62) (g := w.heap.size) (r := r) (by assumption)⟩
theorem hline_3 (r : HRw) (w : World) (hk : r.x.kind = 3) : Calls Tryz.prog 24 #[.agg (hiA r)] w (SPost w (itT r.x)) := by
  have h1' : LB w _ r := HBx.new 62 w r
  obtain ⟨w1, hst1⟩ : ∃ w1, w.alloc (.cells (hiA r) 62) = w1 := ⟨_, rfl⟩
  rw [hst1] at h1'
  have f0 := h1'.kind
  have f4 := h1'.n
  rw [hk] at f0
  obtain ⟨a, ha⟩ : ∃ a, a = smallT r.x.n := ⟨_, rfl⟩
  have la : a.length ≤ 20 := by rw [ha]; exact smallT_len _
  have HA := Lib.hid (fun w => hsmall_ok r.x.n w)
  rw [← ha] at HA
  obtain ⟨p1, g1⟩ : ∃ p, p = [116, 105, 99, 107, 32] ++ a := ⟨_, rfl⟩
  have e1 : ∀ w, (Op.stringOp .add ⟨#[116, 105, 99, 107, 32]⟩ ⟨a.toArray⟩).run Tryz.prog w = .ok (strV p1) w := fun w => by rw [g1]; exact str_add [116, 105, 99, 107, 32] a (by simp; omega) w
  have HT := Lib.hid (show itT r.x = p1 by unfold itT; rw [if_neg (by rw [hk]; decide), if_neg (by rw [hk]; decide), if_pos hk, g1, ha]; simp [wTick])
  have H1 := Lib.hid h1'
  clear g1 ha la hk h1'
  go_enter Tryz.func24, Tryz.ntmps24
  go_wp2_with fail
  refine (HA.out _).mono ?_
  rintro e w2 ⟨rfl, hb⟩
  have H2 := Lib.hid (H1.out.to hb)
  clear hb
  go_wp2_with fail
  go_ret
  exact ⟨by rw [HT.out]; try rfl, H2.out.bel⟩
theorem hline_4 (r : HRw) (w : World) (hk : r.x.kind = 4) (hq : r.x.q.fits) (he : encOk r.x.q = true) (hd : r.x.fits) : Calls Tryz.prog 24 #[.agg (hiA r)] w (SPost w (itT r.x)) := by
  have h1' : LB w _ r := HBx.new 62 w r
  obtain ⟨w1, hst1⟩ : ∃ w1, w.alloc (.cells (hiA r) 62) = w1 := ⟨_, rfl⟩
  rw [hst1] at h1'
  have f0 := h1'.kind
  rw [hk] at f0
  have HQ1 := Lib.hid h1'.q
  obtain ⟨a, ha⟩ : ∃ a, a = smallT r.x.conn := ⟨_, rfl⟩
  obtain ⟨h, hh⟩ : ∃ h, h = hexT r.x.draw := ⟨_, rfl⟩
  obtain ⟨l, hl⟩ : ∃ l, l = lineT r.x.q := ⟨_, rfl⟩
  have la : a.length ≤ 20 := by rw [ha]; exact smallT_len _
  have lh : h.length = 16 := by rw [hh]; exact hexF_len 16 _
  have ll : l.length ≤ 20000 := by rw [hl]; unfold lineT; rw [if_pos he]; exact lineQ_len _ he
  have HA := Lib.hid (fun w => hsmall_ok r.x.conn w)
  rw [← ha] at HA
  have HH := Lib.hid (fun w => hex_ok r.x.draw w hd)
  rw [← hh] at HH
  have HL := Lib.hid (fun w => Line_ok r.x.q w hq)
  unfold LPost at HL
  rw [← hl] at HL
  obtain ⟨p1, g1⟩ : ∃ p, p = [97, 115, 107, 32] ++ a := ⟨_, rfl⟩
  have e1 : ∀ w, (Op.stringOp .add ⟨#[97, 115, 107, 32]⟩ ⟨a.toArray⟩).run Tryz.prog w = .ok (strV p1) w := fun w => by rw [g1]; exact str_add [97, 115, 107, 32] a (by simp; omega) w
  obtain ⟨p2, g2⟩ : ∃ p, p = p1 ++ [32] := ⟨_, rfl⟩
  have e2 : ∀ w, (Op.stringOp .add ⟨p1.toArray⟩ ⟨#[32]⟩).run Tryz.prog w = .ok (strV p2) w := fun w => by rw [g2]; exact str_add p1 [32] (by simp [g1]; omega) w
  obtain ⟨p3, g3⟩ : ∃ p, p = p2 ++ h := ⟨_, rfl⟩
  have e3 : ∀ w, (Op.stringOp .add ⟨p2.toArray⟩ ⟨h.toArray⟩).run Tryz.prog w = .ok (strV p3) w := fun w => by rw [g3]; exact str_add p2 h (by simp [g1, g2]; omega) w
  obtain ⟨p4, g4⟩ : ∃ p, p = p3 ++ [32] := ⟨_, rfl⟩
  have e4 : ∀ w, (Op.stringOp .add ⟨p3.toArray⟩ ⟨#[32]⟩).run Tryz.prog w = .ok (strV p4) w := fun w => by rw [g4]; exact str_add p3 [32] (by simp [g1, g2, g3]; omega) w
  obtain ⟨p5, g5⟩ : ∃ p, p = p4 ++ l := ⟨_, rfl⟩
  have e5 : ∀ w, (Op.stringOp .add ⟨p4.toArray⟩ ⟨l.toArray⟩).run Tryz.prog w = .ok (strV p5) w := fun w => by rw [g5]; exact str_add p4 l (by simp [g1, g2, g3, g4]; omega) w
  have HT := Lib.hid (show itT r.x = p5 by unfold itT; rw [if_neg (by rw [hk]; decide), if_neg (by rw [hk]; decide), if_neg (by rw [hk]; decide), g5, g4, g3, g2, g1, ha, hh, hl]; simp [wAsk])
  have HSB := Lib.hid (fun wx (hx : LB w wx r) => (⟨hx.conn, hx.draw⟩ : wx.cell? ⟨w.heap.size, 1, none⟩ = some (.int .i64 r.x.conn) ∧ wx.cell? ⟨w.heap.size, 3, none⟩ = some (.int .u64 (r.x.draw : Nat))))
  have H1 := Lib.hid h1'
  clear g1 g2 g3 g4 g5 ha hh hl la lh ll hd hk h1' hq he
  go_enter Tryz.func24, Tryz.ntmps24
  go_wp2_with (refine load_arr rfl 60 (.tmp 36) rfl w.heap.size 5 rfl (rqC r.x.q) _ HQ1.out Tryz.underlying60 rfl (rq_size _) ?_)
  refine (HL.out _).mono ?_
  rintro e w2 ⟨rfl, hb⟩
  have h2' : LB w w2 r := H1.out.to hb
  have f1 := h2'.conn
  have f3 := h2'.draw
  have h2d : LB w w2.drew r := h2'.drew
  clear hb
  go_wp2_with fail
  go_region_held3 (fun wx => wx.cell? ⟨w.heap.size, 1, none⟩ = some (.int .i64 r.x.conn) ∧ wx.cell? ⟨w.heap.size, 3, none⟩ = some (.int .u64 (r.x.draw : Nat))) (first | go_keep | exact HSB.out _ (by assumption)) (first
    | ((with_reducible refine (HA.out _).mono ?_); rintro e wa ⟨rfl, hba⟩; have hxa := LB.to (r := r) (w := w) (by assumption) hba; clear hba)
    | ((with_reducible refine (HH.out _).mono ?_); rintro e wb ⟨rfl, hbb⟩; have hxb := LB.to (r := r) (w := w) (by assumption) hbb; clear hbb))
  all_goals
    go_wp2_with fail
    go_ret
    exact ⟨by rw [HT.out]; try rfl, HBx.bel (T := 62) (g := w.heap.size) (r := r) (by assumption)⟩
theorem hline_ok2 (r : HRw) (w : World) (hsl : Sl byC w w.heap.size (.slice r.A r.x.bs.length r.cap) r.x.bs) (hq : r.x.q.fits) (hdr : r.x.fits) (hi : itOk r.x = true) : Calls Tryz.prog 24 #[.agg (hiA r)] w (SPost w (itT r.x)) := by
  unfold itOk at hi
  by_cases h1 : r.x.kind = 1
  · rw [if_pos h1] at hi
    simp only [Bool.and_eq_true, decide_eq_true_eq] at hi
    exact hline_1 r w h1 hsl hi.2.1
  · rw [if_neg h1] at hi
    by_cases h2 : r.x.kind = 2
    · exact hline_2 r w h2 hdr
    · rw [if_neg h2] at hi
      by_cases h3 : r.x.kind = 3
      · exact hline_3 r w h3
      · rw [if_neg h3] at hi
        by_cases h4 : r.x.kind = 4
        · rw [if_pos h4] at hi
          simp only [Bool.and_eq_true, decide_eq_true_eq] at hi
          exact hline_4 r w h4 hq hi.2.2.2 hdr
        · rw [if_neg h4] at hi
          cases hi
theorem hline_ok (r : HRw) (w : World) (h : HOk w r) (hi : itOk r.x = true) : Calls Tryz.prog 24 #[.agg (hiA r)] w (SPost w (itT r.x)) := hline_ok2 r w h.sl h.q h.dr hi
theorem itT_max (x : HIt) (h : itOk x = true) : (itT x).length ≤ 30000 := by
  have t1 := smallT_len x.conn
  have t2 := smallT_len x.n
  have t3 : (hexT x.draw).length = 16 := hexF_len 16 _
  have t4 := hexB_len x.bs
  have w1 : wFeed.length = 4 := rfl
  have w2 : wPick.length = 4 := rfl
  have w3 : wTick.length = 4 := rfl
  have w4 : wAsk.length = 3 := rfl
  unfold itOk at h
  unfold itT
  split
  · rename_i hk
    rw [if_pos hk] at h
    simp only [Bool.and_eq_true, decide_eq_true_eq] at h
    simp only [List.length_append, List.length_cons]
    omega
  · rename_i hk
    rw [if_neg hk] at h
    split
    · simp only [List.length_append, List.length_cons]; omega
    · rename_i hk2
      rw [if_neg hk2] at h
      split
      · simp only [List.length_append, List.length_cons]; omega
      · rename_i hk3
        rw [if_neg hk3] at h
        split at h
        · simp only [Bool.and_eq_true, decide_eq_true_eq] at h
          have h5 : lineT x.q = lineQ x.q := by unfold lineT; rw [if_pos h.2.2.2]
          have := lineQ_len x.q h.2.2.2
          rw [h5]
          simp only [List.length_append, List.length_cons]
          omega
        · cases h
end Go.Proofs.YtldjgpnbkbmgoaaGreatDoor

