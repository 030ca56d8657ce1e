/-
  Sums of bytes: snapshot.Sum and the reference's. Conditions: none.
-/
import Derived.Test.YtmgpfkoomlgcoaaGreatNum
namespace Go.Proofs.YtmgpfkoomlgcoaaGreat
open Go.RowKit

def sumL (l : List UInt8) : Nat := l.foldl (fun n x => n + x.toNat) 0
theorem sumL_snoc (l : List UInt8) (x : UInt8) : sumL (l ++ [x]) = sumL l + x.toNat := by unfold sumL; rw [List.foldl_append]; rfl
theorem sumL_from (l : List UInt8) : ∀ n, l.foldl (fun n x => n + x.toNat) n = n + sumL l := by
  induction l with
  | nil => intro n; simp [sumL]
  | cons x l ih => intro n; unfold sumL; rw [List.foldl_cons, List.foldl_cons, ih, ih]; omega
theorem sumL_append (l m : List UInt8) : sumL (l ++ m) = sumL l + sumL m := by
  unfold sumL
  rw [List.foldl_append]
  exact sumL_from m _
theorem sumL_le (l : List UInt8) : sumL l ≤ 255 * l.length := by
  induction l with
  | nil => simp [sumL]
  | cons x l ih =>
    have h : sumL (x :: l) = x.toNat + sumL l := by
      have := sumL_from l (0 + x.toNat)
      unfold sumL at this ⊢
      rw [List.foldl_cons, this]
      omega
    have hx : x.toNat < 256 := x.toNat_lt
    rw [h]
    simp only [List.length_cons]
    omega

set_option maxRecDepth 100000 in
set_option maxHeartbeats 400000 in
theorem sum_ok (l : List UInt8) (s : Value) (w : World) (B : Nat) (hs : Sl byC w B s l) (hlen : l.length ≤ 1000000) :
    Calls Tryz.prog 12 #[s] w fun e w' => e = .returned (.int .u64 (sumL l % 4294967296 : Nat)) ∧ w' = w := by
  obtain ⟨A, ca, rfl, h1, h2, h3⟩ := hs
  unfold maxLen at h2
  go_enter Tryz.func12, Tryz.ntmps12
  go_wp2
  go_loop [3, 8] (fun nv i => ∃ k : Nat, k ≤ l.length ∧ i = .int .i64 k ∧ nv = .int .u64 (sumL (l.take k) : Nat)) (fun _ i => (l.length - intOf i).toNat)
  case atStart => exact ⟨0, Nat.zero_le _, rfl, rfl⟩
  case round =>
    obtain ⟨k, hk, rfl, rfl⟩ := hrel
    by_cases hlt : k < l.length
    · obtain ⟨b, off, rfl, _, hlay⟩ := h3 (by omega)
      have x0 := (hlay.elem byC_len k hlt).by
      rw [Nat.mul_one] at x0
      have hb := sumL_le (l.take k)
      have hb2 : (l.take k).length = k := by simp; omega
      rw [hb2] at hb
      have hs := Lib.hid (sumL_snoc (l.take k) l[k])
      have ht := Lib.hid (List.take_succ_eq_append_getElem hlt)
      have hx : l[k].toNat < 256 := l[k].toNat_lt
      obtain ⟨m, hm⟩ : ∃ m, m = sumL (l.take k) := ⟨_, rfl⟩
      obtain ⟨x, hxx⟩ : ∃ x, x = l[k].toNat := ⟨_, rfl⟩
      rw [← hm, ← hxx] at hs
      rw [← hm] at hb ⊢
      rw [← hxx] at x0 hx
      clear hb2 hlay h3 hm hxx
      go_wp2
      go_round
      case rel => exact ⟨k + 1, by omega, by go_num, by rw [ht.out, hs.out]; go_num⟩
      case measure => simp [intOf]; omega
    · obtain rfl : k = l.length := by omega
      rw [List.take_length]
      have hb := sumL_le l
      go_wp2
      go_ret
      exact ⟨by congr 2 <;> omega, rfl⟩

set_option maxRecDepth 100000 in
set_option maxHeartbeats 400000 in
theorem rsum_ok (l : List UInt8) (s : Value) (w : World) (B : Nat) (hs : Sl byC w B s l) :
    Calls Tryz.prog 13 #[s] w fun e w' => e = .returned (.int .u64 (sumL l % 4294967296 : Nat)) ∧ w' = w := by
  obtain ⟨A, ca, rfl, h1, h2, h3⟩ := hs
  unfold maxLen at h2
  go_enter Tryz.func13, Tryz.ntmps13
  go_wp2
  go_loop [3, 4] (fun nv i => ∃ k : Nat, k ≤ l.length ∧ i = .int .i64 k ∧ nv = .int .u64 (sumL (l.take k) % 4294967296 : Nat)) (fun _ i => (l.length - intOf i).toNat)
  case atStart => exact ⟨0, Nat.zero_le _, rfl, rfl⟩
  case round =>
    obtain ⟨k, hk, rfl, rfl⟩ := hrel
    by_cases hlt : k < l.length
    · obtain ⟨b, off, rfl, _, hlay⟩ := h3 (by omega)
      have x0 := (hlay.elem byC_len k hlt).by
      rw [Nat.mul_one] at x0
      have hs := Lib.hid (sumL_snoc (l.take k) l[k])
      have ht := Lib.hid (List.take_succ_eq_append_getElem hlt)
      have hx : l[k].toNat < 256 := l[k].toNat_lt
      obtain ⟨m, hm⟩ : ∃ m, m = sumL (l.take k) % 4294967296 := ⟨_, rfl⟩
      obtain ⟨x, hxx⟩ : ∃ x, x = l[k].toNat := ⟨_, rfl⟩
      have hnext : sumL (l.take (k + 1)) % 4294967296 = (m + x) % 4294967296 := by rw [ht.out, hs.out, hm, hxx]; omega
      have HN := Lib.hid hnext
      have hml : m < 4294967296 := by rw [hm]; omega
      rw [← hm]
      rw [← hxx] at x0 hx
      clear hlay h3 hm hxx hnext hs ht
      go_wp2
      go_round
      case rel => exact ⟨k + 1, by omega, by go_num, by rw [HN.out]; go_num⟩
      case measure => simp [intOf]; omega
    · obtain rfl : k = l.length := by omega
      rw [List.take_length]
      go_wp2
      go_ret
      exact ⟨rfl, rfl⟩
end Go.Proofs.YtmgpfkoomlgcoaaGreat
