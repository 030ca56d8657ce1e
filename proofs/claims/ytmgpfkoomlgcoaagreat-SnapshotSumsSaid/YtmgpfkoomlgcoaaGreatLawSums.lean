/-
  SnapshotSums: the sum of bytes is that of one part and of the other, and what is not there, or too long, is not read. Conditions: none.
-/
import Derived.Test.YtmgpfkoomlgcoaaGreatSum
import Derived.Test.YtmgpfkoomlgcoaaGreatSort
import Derived.Deep.DeepCutAuto
import Derived.Laws.MakeOwn
import Derived.Outline
import Derived.Deep.RegionHeld3
namespace Go.Proofs.YtmgpfkoomlgcoaaGreat
open Ev Go.RowKit

theorem known28_ok (w : World) : Calls Tryz.prog 8 #[] w (fun e w' => e = .returned (.bool true) ∧ Below w.heap.size w w') :=
  evFlatO_ok ev_ok sortOv_ok known28 (concs_flat [] [] rfl) w

theorem save_nil : evFlat ev 20 9 [.lit (.pointer none)] = some (.tuple #[.slice none 0 0, .int .i64 3]) := by kernel_rfl

theorem sum_split (l : List UInt8) (k : Nat) : (sumL (l.take k) % 4294967296 + sumL (l.drop k) % 4294967296) % 4294967296 = sumL l % 4294967296 := by
  have := sumL_append (l.take k) (l.drop k)
  rw [List.take_append_drop] at this
  omega

set_option maxRecDepth 100000 in
set_option maxHeartbeats 400000 in
theorem sums_out (l : List UInt8) (s : Value) (pos step : Int) (w : World) (hs : Sl byC w w.heap.size s l) (h : 4000 < l.length ∨ pos < 0 ∨ (l.length : Int) < pos) :
    Calls Tryz.prog 3 #[s, .int .i64 pos, .int .i64 step] w (fun e w' => e = .returned (.bool true) ∧ Below w.heap.size w w') := by
  obtain ⟨A, ca, rfl, h1, h2, h3⟩ := hs
  clear h3
  have HK := Lib.hid (fun w => known28_ok w)
  by_cases c1 : 4000 < l.length
  · go_enter Tryz.func3, Tryz.ntmps3
    go_wp2_with fail
    refine (HK.out _).mono ?_
    rintro e w1 ⟨rfl, hb⟩
    have H1 := Lib.hid hb
    clear hb
    go_wp2_with fail
    go_ret
    exact ⟨rfl, H1.out⟩
  · by_cases c2 : pos < 0
    · go_enter Tryz.func3, Tryz.ntmps3
      go_wp2_with fail
      refine (HK.out _).mono ?_
      rintro e w1 ⟨rfl, hb⟩
      have H1 := Lib.hid hb
      clear hb
      go_wp2_with fail
      go_ret
      exact ⟨rfl, H1.out⟩
    · have c3 : (l.length : Int) < pos := by omega
      go_enter Tryz.func3, Tryz.ntmps3
      go_wp2_with fail
      refine (HK.out _).mono ?_
      rintro e w1 ⟨rfl, hb⟩
      have H1 := Lib.hid hb
      clear hb
      go_wp2_with fail
      go_ret
      exact ⟨rfl, H1.out⟩

theorem long_n (k : Int) : ∃ n : Nat, wrap64 (65537 + (wrap64 (k.tmod 100 + 100)).tmod 100) = (n : Int) ∧ 65537 ≤ n ∧ n < 65700 := by
  have h1 := Int.tmod_lt_of_pos k (by decide : (0 : Int) < 100)
  have h2 := Int.lt_tmod_of_pos k (by decide : (0 : Int) < 100)
  have e1 : wrap64 (k.tmod 100 + 100) = k.tmod 100 + 100 := Go.IntWalk.wrap64_in _ (by omega)
  rw [e1]
  have h3 := Int.tmod_lt_of_pos (k.tmod 100 + 100) (by decide : (0 : Int) < 100)
  have h4 := Int.tmod_nonneg 100 (by omega : 0 ≤ k.tmod 100 + 100)
  have e2 : wrap64 (65537 + (k.tmod 100 + 100).tmod 100) = 65537 + (k.tmod 100 + 100).tmod 100 := Go.IntWalk.wrap64_in _ (by omega)
  rw [e2]
  exact ⟨(65537 + (k.tmod 100 + 100).tmod 100).toNat, by omega, by omega, by omega⟩

theorem long_made (n : Nat) (hn : n < 65700) : ∃ cs : Array Value, ∀ w, (Instr.makeSlice 22 (.int .i64 (n : Int)) (.int .i64 (n : Int))).run Tryz.prog w = .ok (.slice (some ⟨w.heap.size, 0, none⟩) n n) (w.alloc (.cells cs 5)) := by
  have h : (Tryz.prog.info? 5).map (fun i => (i.zero, i.size, i.bytes)) = some (some (.int .u8 0), 1, 1) := by kernel_rfl
  obtain ⟨i, hi, h1, h2, h3⟩ := info_parts h
  refine ⟨madeCells (Value.int .u8 0).cells ((n : Int).toNat * i.size), fun w => ?_⟩
  have := run_make (P := Tryz.prog) w 22 5 i _ Tryz.underlying22 hi h1 .i64 .i64 n n (by omega) (Int.le_refl _) (by rw [h3]; omega) (by omega)
  simpa using this

def zeroState : Value := .agg #[.slice none 0 0, .slice none 0 0, .slice none 0 0, .slice none 0 0, .string ⟨#[]⟩, .slice none 0 0, .int .i64 0]

set_option maxRecDepth 100000 in
theorem decode_long (A : Option Addr) (n c : Nat) (h : 65536 < n) (w : World) :
    Calls Tryz.prog 10 #[.slice A n c] w (fun e w' => e = .returned (.tuple #[zeroState, .int .i64 2]) ∧ Below w.heap.size w w') := by
  go_enter Tryz.func10, Tryz.ntmps10
  go_wp2_with fail
  refine bodyPost_ret (by simp [results, Tryz.results10, go_sem]; try rfl) rfl ?_
  exact ⟨rfl, (Below.refl _ w).alloc (Nat.le_refl _) _⟩

set_option maxRecDepth 100000 in
theorem load_long (A : Option Addr) (n c : Nat) (h : 65536 < n) (w : World) :
    Calls Tryz.prog 11 #[.slice A n c] w (fun e w' => e = .returned (.tuple #[.pointer none, .int .i64 2]) ∧ Below w.heap.size w w') := by
  go_enter Tryz.func11, Tryz.ntmps11
  go_wp2_with fail
  refine (decode_long A n c h _).mono ?_
  rintro e w1 ⟨rfl, hb⟩
  have H1 := Lib.hid hb
  clear hb
  unfold zeroState
  go_wp2_with fail
  refine bodyPost_ret (results_tmp2 rfl _ _ _) rfl ?_
  exact ⟨rfl, H1.out.trans ((Below.refl _ w1).alloc (Nat.le_refl _) _ |>.mono H1.out.size)⟩

set_option maxRecDepth 100000 in
set_option maxHeartbeats 1600000 in
theorem sums_in (l : List UInt8) (s : Value) (pos : Nat) (step : Int) (w : World) (hs : Sl byC w w.heap.size s l) (hl : l.length ≤ 4000) (hp : pos ≤ l.length) :
    Calls Tryz.prog 3 #[s, .int .i64 (pos : Nat), .int .i64 step] w (fun e w' => e = .returned (.bool true) ∧ Below w.heap.size w w') := by
  have HS := Lib.hid hs
  obtain ⟨A, ca, rfl, h1, h2, h3⟩ := hs
  clear h3
  have HT := Lib.hid (Sl.pre by_enc HS.out hp)
  have HD := Lib.hid (Sl.cut by_enc HS.out hp)
  have hhi : ∀ w, (Instr.slice 22 (.slice A l.length ca) none (some (.int .i64 (pos : Int))) none).run Tryz.prog w = .ok (.slice A pos ca) w := fun w => run_slice_hi Tryz.underlying22 Tryz.sizeOf5 w A l.length ca pos .i64 (by omega)
  have hlo : ∀ w, (Instr.slice 22 (.slice A l.length ca) (some (.int .i64 (pos : Int))) none none).run Tryz.prog w = .ok (.slice (cutA A ca pos 1) (l.length - pos) (ca - pos)) w := fun w => run_slice_lo Tryz.underlying22 Tryz.sizeOf5 w A l.length ca pos .i64 hp
  have HP := Lib.hid (sum_split l pos)
  obtain ⟨n, hn, hn1, hn2⟩ := long_n step
  obtain ⟨cs, hmk⟩ := long_made n (by omega)
  go_enter Tryz.func3, Tryz.ntmps3

  go_wp2_with fail
  refine (evFlat_ok ev_ok save_nil (concs_flat _ [.pointer none] rfl) _).mono ?_
  rintro e w1 ⟨rfl, hb1⟩
  have H1 := Lib.hid hb1
  clear hb1
  go_wp2_with fail
  rw [hn]
  go_wp2_with fail
  refine (decode_long _ n n (by omega) _).mono ?_
  rintro e w2 ⟨rfl, hb2⟩
  have H2 := Lib.hid hb2
  clear hb2
  unfold zeroState
  go_wp2_with fail
  refine (load_long _ n n (by omega) _).mono ?_
  rintro e w3 ⟨rfl, hb3⟩
  have H3 := Lib.hid hb3
  clear hb3
  go_wp2_with fail
  have HB := Lib.hid (show Below w.heap.size w w3 from H1.out.trans ((((Below.refl _ w1).alloc (Nat.le_refl _) (.cells cs 5)).mono H1.out.size).trans ((H2.out.mono (by have := H1.out.size; simp; omega)).trans
    (((Below.refl _ w2).alloc (Nat.le_refl _) _).mono (by have := H1.out.size; have := H2.out.size; simp at this; omega) |>.trans (H3.out.mono (by have := H1.out.size; have := H2.out.size; simp at this ⊢; omega))))))
  have HS3 := Lib.hid (HS.out.below HB.out.drew)
  have HT3 := Lib.hid (HT.out.below HB.out.drew)
  have HD3 := Lib.hid (HD.out.below HB.out.drew)
  have hpl : (l.take pos).length = pos := by simp; omega
  have hdl : (l.drop pos).length ≤ 1000000 := by simp; omega
  have htl : (l.take pos).length ≤ 1000000 := by omega
  have hll : l.length ≤ 1000000 := by omega
  obtain ⟨s1, hs1⟩ : ∃ x, sumL l % 4294967296 = x := ⟨_, rfl⟩
  obtain ⟨s2, hs2⟩ : ∃ x, sumL (l.take pos) % 4294967296 = x := ⟨_, rfl⟩
  obtain ⟨s3, hs3⟩ : ∃ x, sumL (l.drop pos) % 4294967296 = x := ⟨_, rfl⟩
  have hs1l : s1 < 4294967296 := by omega
  have hs2l : s2 < 4294967296 := by omega
  have hs3l : s3 < 4294967296 := by omega
  have hsum : (s2 + s3) % 4294967296 = s1 := by have := HP.out; rw [hs1, hs2, hs3] at this; exact this
  have K1 : ∀ W, Sl byC W w.heap.size (.slice A l.length ca) l → Calls Tryz.prog 12 #[(.slice A l.length ca)] W fun e w' => e = .returned (.int .u64 (s1 : Nat)) ∧ w' = W := fun W hW => by
    have := sum_ok l _ W w.heap.size hW hll
    rw [hs1] at this
    exact this
  have K2 : ∀ W, Sl byC W w.heap.size (.slice A pos ca) (l.take pos) → Calls Tryz.prog 12 #[(.slice A pos ca)] W fun e w' => e = .returned (.int .u64 (s2 : Nat)) ∧ w' = W := fun W hW => by
    have := sum_ok (l.take pos) _ W w.heap.size hW htl
    rw [hs2] at this
    exact this
  have K3 : ∀ W, Sl byC W w.heap.size (.slice (cutA A ca pos 1) (l.length - pos) (ca - pos)) (l.drop pos) → Calls Tryz.prog 12 #[(.slice (cutA A ca pos 1) (l.length - pos) (ca - pos))] W fun e w' => e = .returned (.int .u64 (s3 : Nat)) ∧ w' = W := fun W hW => by
    have := sum_ok (l.drop pos) _ W w.heap.size hW hdl
    rw [hs3] at this
    exact this
  have K4 : ∀ W, Sl byC W w.heap.size (.slice A l.length ca) l → Calls Tryz.prog 13 #[(.slice A l.length ca)] W fun e w' => e = .returned (.int .u64 (s1 : Nat)) ∧ w' = W := fun W hW => by
    have := rsum_ok l _ W w.heap.size hW
    rw [hs1] at this
    exact this
  have HK1 := Lib.hid K1
  have HK2 := Lib.hid K2
  have HK3 := Lib.hid K3
  have HK4 := Lib.hid K4
  have HK5 := Lib.hid (fun w => known28_ok w)
  have hE1 : (IntKind.u64.wrap ((s2 : Int) + (s3 : Int))).tmod 4294967296 = (s1 : Int) := by
    rw [show IntKind.u64.wrap ((s2 : Int) + (s3 : Int)) = (s2 : Int) + (s3 : Int) by rw [IntKind.wrap_u64]; omega, Int.tmod_eq_emod_of_nonneg (by omega)]
    omega
  clear K1 K2 K3 K4 hs1 hs2 hs3 hmk hsum
  go_region_held3 (fun _ => True) (trivial) (first
    | ((with_reducible refine (HK1.out _ ?_).mono ?_); exact HS3.out; rintro e w5 ⟨rfl, rfl⟩)
    | ((with_reducible refine (HK4.out _ ?_).mono ?_); exact HS3.out; rintro e w5 ⟨rfl, rfl⟩)
    | ((with_reducible refine (HK2.out _ ?_).mono ?_); exact HT3.out; rintro e w5 ⟨rfl, rfl⟩)
    | ((with_reducible refine (HK3.out _ ?_).mono ?_); exact HD3.out; rintro e w5 ⟨rfl, rfl⟩)
    | ((with_reducible refine (HK5.out _).mono ?_); rintro e w5 ⟨rfl, hb5⟩; have H5 := Lib.hid hb5; clear hb5))
  all_goals
    go_wp2_with fail
    go_ret
    exact ⟨rfl, HB.out.drew.trans (H5.out.mono HB.out.size)⟩
end Go.Proofs.YtmgpfkoomlgcoaaGreat
