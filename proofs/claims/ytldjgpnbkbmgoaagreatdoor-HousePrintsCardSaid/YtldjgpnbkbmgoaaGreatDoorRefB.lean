/-
  The reference's Needs and numbers. Conditions: as each states.
-/
import Derived.Test.YtldjgpnbkbmgoaaGreatDoorRefA
namespace Go.Proofs.YtldjgpnbkbmgoaaGreatDoor
open Go.RowKit Go.Lib

theorem in_enc : EncOk inC 1 := ⟨inC_len, fun a u hu => by
  simp only [inC, List.mem_cons, List.not_mem_nil, or_false] at hu
  subst hu
  rfl⟩
theorem Lay.inn {w : World} {b off : Nat} {x : Nat} (h : Lay w b off (inC x)) : w.cell? ⟨b, off, none⟩ = some (.int .i64 (x : Int)) := h 0 _ rfl
def sumL (l : List Nat) : Nat := l.foldl (· + ·) 0
theorem sumL_snoc (l : List Nat) (x : Nat) : sumL (l ++ [x]) = sumL l + x := by unfold sumL; rw [List.foldl_append]; rfl
theorem foldl_add (l : List Nat) (a : Nat) : l.foldl (· + ·) a = a + sumL l := by
  induction l generalizing a with
  | nil => rfl
  | cons x l ih =>
    unfold sumL
    rw [List.foldl_cons, List.foldl_cons, ih, ih (0 + x)]
    omega
theorem sumL_append (l m : List Nat) : sumL (l ++ m) = sumL l + sumL m := by unfold sumL; rw [List.foldl_append, foldl_add]; rfl
theorem sumL_take_le (l : List Nat) (k : Nat) : sumL (l.take k) ≤ sumL l := by
  have h := sumL_append (l.take k) (l.drop k)
  rw [List.take_append_drop] at h
  omega
theorem widths_sum {op : Int} (h : isOp op = true) : sumL (widths op) = fieldsN op := by
  rcases isOp_cases h with rfl | rfl | rfl | rfl | rfl | rfl | rfl | rfl | rfl | rfl | rfl | rfl | rfl | rfl | rfl | rfl | rfl | rfl | rfl <;> rfl
theorem ite_P {P : List Nat → Prop} {c : Prop} [Decidable c] {a b : List Nat} (h1 : P a) (h2 : P b) : P (if c then a else b) := by
  split
  · exact h1
  · exact h2
theorem widths_all {op : Int} : (fun l : List Nat => l.all (fun x => decide (1 ≤ x ∧ x ≤ 8)) = true) (widths op) := by
  unfold widths
  repeat' refine ite_P (P := fun l : List Nat => l.all (fun x => decide (1 ≤ x ∧ x ≤ 8)) = true) ?_ ?_
  all_goals decide
theorem widths_le {op : Int} : ∀ x ∈ widths op, 1 ≤ x ∧ x ≤ 8 := by
  intro x hx
  simpa using List.all_eq_true.1 widths_all x hx
theorem sumL_le {l : List Nat} (h : ∀ x ∈ l, 1 ≤ x ∧ x ≤ 8) : sumL l ≤ 8 * l.length ∧ l.length ≤ sumL l := by
  induction l with
  | nil => exact ⟨Nat.le_refl _, Nat.le_refl _⟩
  | cons x l ih =>
    have h1 := h x (List.mem_cons_self ..)
    have h2 := ih fun y hy => h y (List.mem_cons_of_mem _ hy)
    have e : sumL (x :: l) = x + sumL l := by
      show List.foldl (· + ·) (0 + x) l = _
      rw [foldl_add]
      omega
    rw [e, List.length_cons]
    omega

set_option maxRecDepth 100000 in
set_option maxHeartbeats 1000000 in
theorem rneeds_ok (op : Int) (w : World) : Calls Tryz.prog 106 #[.int .i64 op] w fun e w' => e = .returned (.int .i64 (needsZ op)) ∧ Below w.heap.size w w' := by
  have ht := rthere_ok op w
  unfold needsZ
  by_cases h : isOp op = true
  · have hf := rfields_ok op h w
    have HN := Lib.hid (widths_sum h)
    have HL := Lib.hid (@widths_le op)
    have hs8 := fieldsN_le op
    rw [if_pos h]
    rw [h] at ht
    clear h
    go_enter Tryz.func106, Tryz.ntmps106
    go_wp2_with fail
    refine ht.mono ?_
    rintro e w' ⟨rfl, hw'⟩
    rw [hw']
    clear hw' w'
    go_wp2_with fail
    refine hf.mono ?_
    rintro e w1 ⟨v, rfl, ⟨A, cap, rfl, h1, h2, h3⟩, hb⟩
    generalize widths op = l at *
    unfold maxLen at h2
    have h3 := Lib.hid h3
    go_wp2_with fail
    go_loop [3, 5] (fun n i => ∃ k : Nat, k ≤ l.length ∧ i = .int .i64 k ∧ n = .int .i64 (sumL (l.take k) : Nat)) (fun _ i => (l.length - RowKit.intOf i).toNat)
    case atStart => exact ⟨0, Nat.zero_le _, rfl, rfl⟩
    case round =>
      obtain ⟨k, hk, rfl, rfl⟩ := hrel
      by_cases hlt : k < l.length
      · obtain ⟨b, off, rfl, _, hlay⟩ := h3.out (by omega)
        have x0 := (hlay.elem inC_len k hlt).inn
        rw [Nat.mul_one] at x0
        have hs := Lib.hid (sumL_snoc (l.take k) l[k])
        have ht := Lib.hid (List.take_succ_eq_append_getElem hlt)
        have hle : sumL (l.take k) ≤ 14 := Nat.le_trans (sumL_take_le l k) (by rw [HN.out]; exact hs8)
        have hx := (HL.out _ (List.getElem_mem hlt)).2
        obtain ⟨m, hm⟩ : ∃ m, m = sumL (l.take k) := ⟨_, rfl⟩
        obtain ⟨x, hxx⟩ : ∃ x, x = l[k] := ⟨_, rfl⟩
        rw [← hm, ← hxx] at hs
        rw [← hm] at hle ⊢
        rw [← hxx] at x0 hx
        have HM := Lib.hid hm
        have HX := Lib.hid hxx
        clear hlay hm hxx
        go_wp2
        go_round
        case rel => exact ⟨k + 1, by omega, by go_num, by rw [ht.out, ← HX.out, hs.out]; go_num⟩
        case measure => simp [RowKit.intOf]; omega
      · obtain rfl : k = l.length := by omega
        rw [List.take_length, HN.out]
        go_wp2
        go_ret
        exact ⟨rfl, hb⟩
  · rw [if_neg h]
    rw [Bool.not_eq_true] at h
    rw [h] at ht
    clear h
    go_enter Tryz.func106, Tryz.ntmps106
    go_wp2_with fail
    refine ht.mono ?_
    rintro e w' ⟨rfl, hw'⟩
    rw [hw']
    clear hw' w'
    go_wp2_with fail
    go_ret
    exact ⟨rfl, Below.refl _ _⟩

theorem run_slice_both {P : Program} {t e : TypeId} {size : Nat} (hu : P.underlying t = some (.slice e)) (hs : ∀ w, (sizeOf e).run P w = .ok size w) (w : World) (A : Option Addr) (n c i j : Nat) (k k' : IntKind) (hi : i ≤ j) (hj : j ≤ c) :
    (Instr.slice t (.slice A n c) (some (.int k (i : Int))) (some (.int k' (j : Int))) none).run P w = .ok (.slice (cutA A c i size) (j - i) (c - i)) w := by
  have h1 : (0 : Int) ≤ (j : Int) ∧ (j : Int) ≤ (c : Int) := by omega
  have h2 : (0 : Int) ≤ (i : Int) ∧ (i : Int) ≤ (j : Int) := by omega
  simp [Instr.slice, run_underlying hu, Instr.sliceBounds, Instr.sliceBound, asIntOf, h1, h2, hs, cutA, go_sem]
  rw [if_pos hj, if_pos hi]
theorem Sl.mid {α : Type} {enc : α → List Value} {k : Nat} {w : World} {B : Nat} {l : List α} {A : Option Addr} {c i j : Nat} (C : EncOk enc k) (h : Sl enc w B (.slice A l.length c) l) (hi : i ≤ j) (hj : j ≤ l.length) :
    Sl enc w B (.slice (cutA A c i k) (j - i) (c - i)) ((l.take j).drop i) := by
  have h1 := h.pre C hj
  have hl : (l.take j).length = j := by simp; omega
  have h2 : Sl enc w B (.slice A (l.take j).length c) (l.take j) := by rw [hl]; exact h1
  have h3 := h2.cut C (n := i) (by rw [hl]; exact hi)
  rw [hl] at h3
  exact h3

def u8C (n : Nat) : List Value := [.int .u64 (n : Int)]
theorem u8C_len (n : Nat) : (u8C n).length = 1 := rfl
theorem u8_enc : EncOk u8C 1 := ⟨u8C_len, fun a u hu => by
  simp only [u8C, List.mem_cons, List.not_mem_nil, or_false] at hu
  subst hu
  rfl⟩
theorem u8_elem : ElemOk Tryz.prog 23 49 1 8 := ⟨Tryz.underlying23, by
  have h : (Tryz.prog.info? 49).map (fun i => (i.zero, i.size, i.bytes)) = some (some (.int .u64 0), 1, 8) := by kernel_rfl
  obtain ⟨i, hi, h1, h2, h3⟩ := info_parts h
  exact ⟨i, _, hi, h1, h2, h3, rfl⟩, by omega⟩
@[go_sem high] theorem midBy (w : World) (A : Option Addr) (n c i j : Nat) (k k' : IntKind) (hi : i ≤ j) (hj : j ≤ c) : (Instr.slice 52 (.slice A n c) (some (.int k (i : Int))) (some (.int k' (j : Int))) none).run Tryz.prog w = .ok (.slice (cutA A c i 1) (j - i) (c - i)) w :=
  run_slice_both Tryz.underlying52 Tryz.sizeOf5 w A n c i j k k' hi hj

/-- The numbers of bytes, so wide each. -/
def cutN : List UInt8 → List Nat → List Nat
  | _, [] => []
  | l, x :: ws => beNat (l.take x) :: cutN (l.drop x) ws
theorem cutN_snoc : ∀ (ws : List Nat) (l : List UInt8) (x : Nat), cutN l (ws ++ [x]) = cutN l ws ++ [beNat ((l.drop (sumL ws)).take x)]
  | [], l, x => rfl
  | y :: ws, l, x => by
    have e : sumL (y :: ws) = y + sumL ws := by
      show List.foldl (· + ·) (0 + y) ws = _
      rw [foldl_add]
      omega
    rw [List.cons_append, cutN, cutN, cutN_snoc ws, e, List.drop_drop, List.cons_append]
theorem cutN_len : ∀ (ws : List Nat) (l : List UInt8), (cutN l ws).length = ws.length
  | [], _ => rfl
  | _ :: ws, l => by rw [cutN, List.length_cons, List.length_cons, cutN_len ws]
theorem drop_take_eq {α : Type} (l : List α) (i x : Nat) : (l.take (i + x)).drop i = (l.drop i).take x := by
  rw [List.drop_take]
  congr 1
  omega

set_option maxRecDepth 100000 in
set_option maxHeartbeats 1000000 in
theorem numbers_ok (b : List UInt8) (ws : List Nat) (s t : Value) (w : World) (hs : Sl byC w w.heap.size s b) (ht : Sl inC w w.heap.size t ws) (hw8 : ∀ x ∈ ws, 1 ≤ x ∧ x ≤ 8) (hsum : sumL ws ≤ b.length) (h100 : ws.length ≤ 100) :
    Calls Tryz.prog 108 #[s, t] w fun e w' => ∃ v, e = .returned v ∧ Sl u8C w' w'.heap.size v (cutN b ws) ∧ Below w.heap.size w w' := by
  have HS := Lib.hid hs
  have HT := Lib.hid ht
  obtain ⟨A, ca, rfl, h1, h2, h3⟩ := hs
  obtain ⟨A', ca', rfl, h1', h2', h3'⟩ := ht
  unfold maxLen at h2 h2'
  have H3 := Lib.hid h3'
  have H8 := Lib.hid hw8
  have HSUM := Lib.hid hsum
  clear h3 h3' hw8 hsum
  go_enter Tryz.func108, Tryz.ntmps108
  go_wp2_with fail
  go_loopw [5, 6, 7] (fun o a i wr => ∃ k : Nat, k ≤ ws.length ∧ i = .int .i64 k ∧ a = .int .i64 (sumL (ws.take k) : Nat) ∧ Own u8C 1 49 wr w.heap.size o (cutN b (ws.take k)) ∧ Below w.heap.size w wr) (fun _ _ i _ => (ws.length - RowKit.intOf i).toNat)
  case atStart => exact ⟨0, Nat.zero_le _, rfl, rfl, Own.nil, Below.refl _ _⟩
  case round =>
    obtain ⟨k, hk, rfl, rfl, hown, hbel⟩ := hrel
    by_cases hlt : k < ws.length
    · obtain ⟨g, off, rfl, hg, hlay⟩ := H3.out (by omega)
      have x0 := (((hlay.elem inC_len k hlt).of_heap (hbel.block g hg))).inn
      rw [Nat.mul_one] at x0
      have HSX := Lib.hid (hlay.elem inC_len k hlt)
      have hsn := Lib.hid (sumL_snoc (ws.take k) ws[k])
      have hcn := Lib.hid (cutN_snoc (ws.take k) b ws[k])
      have hts := Lib.hid (List.take_succ_eq_append_getElem hlt)
      have hle : sumL (ws.take k) + ws[k] ≤ b.length := by
        rw [← sumL_snoc, ← List.take_succ_eq_append_getElem hlt]
        exact Nat.le_trans (sumL_take_le _ _) HSUM.out
      have hx := H8.out _ (List.getElem_mem hlt)
      have hcl := Lib.hid (cutN_len (ws.take k) b)
      have hkl : (ws.take k).length = k := by simp; omega
      obtain ⟨m, hm⟩ : ∃ m, m = sumL (ws.take k) := ⟨_, rfl⟩
      obtain ⟨x, hxx⟩ : ∃ x, x = ws[k] := ⟨_, rfl⟩
      rw [← hm, ← hxx] at hcn
      rw [← hm, ← hxx] at hsn hle
      rw [← hxx] at x0 hx
      rw [← hxx] at HSX
      rw [hkl] at hcl
      have HXX := Lib.hid hxx
      rw [← hm]
      generalize cutN b (ws.take k) = cl at *
      have HO := Lib.hid hown
      obtain ⟨A0, c0, rfl⟩ := hown.form
      have hm1 : (m : Int) + (x : Int) = ((m + x : Nat) : Int) := by omega
      have HM1 := Lib.hid hm1
      have HM := Lib.hid hm
      clear hlay hm hxx hown hkl hm1
      have hmx : m ≤ m + x := by omega
      have hmc : m + x ≤ ca := by omega
      have hsl : Sl byC wr w.heap.size (.slice (Option.map (fun x => x.add m) A) x (ca - m)) ((b.drop m).take x) := by
        have h := ((HS.out.below hbel).mid by_enc (Nat.le_add_right m x) hle)
        have e1 : cutA A ca m 1 = Option.map (fun x => x.add m) A := by
          unfold cutA
          rw [if_neg (by omega), Nat.mul_one]
        rw [e1, drop_take_eq, show m + x - m = x by omega] at h
        exact h
      have HSL := Lib.hid hsl
      clear hsl
      go_wp2_with fail
      refine (rget_ok _ _ _ _ HSL.out (by simp; omega)).mono ?_
      rintro e w' ⟨rfl, hw'⟩
      rw [hw']
      clear hw' w'
      have HBL := Lib.hid (Blk.new wr 49 #[.int .u64 (beNat ((b.drop m).take x) : Nat)]).lay
      have HOA := Lib.hid (HO.out.alloc (.cells #[.int .u64 (beNat ((b.drop m).take x) : Nat)] 49))
      have hW := Lib.hid (hbel.alloc hbel.size (.cells #[.int .u64 (beNat ((b.drop m).take x) : Nat)] 49))
      have hz : w.heap.size ≤ (wr.alloc (.cells #[.int .u64 (beNat ((b.drop m).take x) : Nat)] 49)).heap.size := by have := hbel.size; simp; omega
      have hcl100 : cl.length ≤ 100 := by rw [hcl.out]; omega
      have HCL := Lib.hid hcl100
      clear hcl100
      go_wp2_with (at_builtin; refine app_one u8_elem u8_enc rfl (.tmp 14) (.tmp 25) rfl rfl HOA.out (beNat ((b.drop m).take x)) wr.heap.size 1 rfl HBL.out (by have := HCL.out; unfold maxLen; omega) (by have := HCL.out; omega) hz ?_; intro g' cap' w2 hown2 hgrow hat hlt2; have HO2 := Lib.hid hown2; have HW2 := Lib.hid (hW.out.grown hgrow hz (fun b hb => (HOA.out.lt b hb).1)); have y0 := HSX.out.of_heap (HW2.out.block g hg) |>.inn; rw [Nat.mul_one] at y0; clear hown2 hgrow hat)
      go_roundw
      case rel => exact ⟨k + 1, by omega, by go_num, by rw [hts.out, ← HXX.out, hsn.out]; go_num, by rw [hts.out, ← HXX.out, hcn.out]; exact HO2.out, HW2.out⟩
      case measure => simp [RowKit.intOf]; omega
    · obtain rfl : k = ws.length := by omega
      rw [List.take_length] at hown
      obtain ⟨A0, c0, rfl⟩ := hown.form
      have HO := Lib.hid hown
      clear hown
      go_wp2
      go_ret
      exact ⟨_, rfl, HO.out.sl, hbel⟩
end Go.Proofs.YtldjgpnbkbmgoaaGreatDoor
