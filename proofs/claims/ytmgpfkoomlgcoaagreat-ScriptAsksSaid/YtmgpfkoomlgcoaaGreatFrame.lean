/-
  A body's frame: frame.Frame and the reference's. Conditions: a body of at most 600 bytes.
-/
import Derived.Test.YtmgpfkoomlgcoaaGreatCodec
namespace Go.Proofs.YtmgpfkoomlgcoaaGreat
open Go.RowKit

def FPost (w : World) (l : List UInt8) (e : Ending) (w' : World) : Prop := ∃ v, e = .returned (.tuple #[v, .int .i64 0]) ∧ Sl byC w' w'.heap.size v l ∧ Below w.heap.size w w' ∧ ∀ g, v.ownBlock = some g → w.heap.size ≤ g ∧ g < w'.heap.size

set_option maxRecDepth 100000 in
set_option maxHeartbeats 400000 in
theorem frame_ok (l : List UInt8) (s : Value) (w : World) (hs : Sl byC w w.heap.size s l) (h0 : 0 < l.length) (hl : l.length ≤ 600) :
    Calls Tryz.prog 100 #[s] w (FPost w (toBE 2 l.length ++ l)) := by
  have HS := Lib.hid hs
  have HPU := Lib.hid (fun w => put_ok l.length 2 w (by omega) (by omega) (by omega) (by omega))
  obtain ⟨A, ca, rfl, h1, h2, h3⟩ := hs
  clear h3
  have htl := toBE_len 2 l.length
  obtain ⟨H, hH⟩ : ∃ H, toBE 2 l.length = H := ⟨_, rfl⟩
  rw [hH] at htl ⊢
  have HH := Lib.hid hH
  clear hH
  go_enter Tryz.func100, Tryz.ntmps100
  go_wp2_with fail
  refine (HPU.out _).mono ?_
  rintro e w1 ⟨v, rfl, hown, hb⟩
  rw [HH.out] at hown
  have HO := Lib.hid hown
  have HB := Lib.hid hb
  have HS1 := Lib.hid (HS.out.below hb)
  clear hown hb
  go_wp2_with (at_builtin; refine app_sl by_elem by_enc rfl (.tmp 16) (.tmp 17) rfl rfl HO.out _ rfl l w.heap.size HS1.out h0 (by rw [htl]; unfold maxLen; omega) (by rw [htl]; omega) HB.out.size ?_; intro g' cap w2 hown2 hgrow hat hlt)
  go_ret2
  have hsl := hown2.sl
  rw [List.length_append, htl] at hsl
  exact ⟨_, rfl, hsl, HB.out.grown hgrow HB.out.size (fun b hb => (HO.out.lt b hb).1), fun g hg => hown2.lt g hg⟩

set_option maxRecDepth 100000 in
set_option maxHeartbeats 1000000 in
theorem rjoin_ok (l m : List UInt8) (s t : Value) (w : World) (hs : Sl byC w w.heap.size s l) (ht : Sl byC w w.heap.size t m) (hl : l.length ≤ 1000) (hm : m.length ≤ 1000) :
    Calls Tryz.prog 188 #[s, t] w fun e w' => ∃ v, e = .returned v ∧ Own byC 1 5 w' w.heap.size v (l ++ m) ∧ Below w.heap.size w w' := by
  obtain ⟨A, ca, rfl, h1, h2, h3⟩ := hs
  obtain ⟨B, cb, rfl, k1, k2, k3⟩ := ht
  have HH3 := Lib.hid h3
  have HK3 := Lib.hid k3
  clear h3 k3
  go_enter Tryz.func188, Tryz.ntmps188
  go_wp2
  go_loopw [5, 6] (fun out i wr => ∃ (k : Nat) (q : List UInt8) (A' : Option Addr) (c' : Nat), k ≤ l.length ∧ i = .int .i64 (k : Nat) ∧ Hid (q = l.take k) ∧ q.length ≤ k ∧ out = .slice A' q.length c' ∧ Own byC 1 5 wr w.heap.size out q ∧ Below w.heap.size w wr) (fun _ i _ => (l.length - intOf i).toNat)
  case atStart => exact ⟨0, [], none, 0, Nat.zero_le _, rfl, Lib.hid rfl, by simp, rfl, Own.nil, Below.refl _ _⟩
  case round =>
    obtain ⟨k, q, A', c', hk, rfl, hq, hql, rfl, hown, hbel⟩ := hrel
    have hsz := hbel.size
    have HO := Lib.hid hown
    have HB := Lib.hid hbel
    by_cases hlt : k < l.length
    · obtain ⟨b, off, rfl, hb, hlay⟩ := HH3.out (by omega)
      have x0 := ((hlay.of_heap (hbel.block b hb)).elem byC_len k hlt).by
      rw [Nat.mul_one] at x0
      have ht := Lib.hid (List.take_succ_eq_append_getElem hlt)
      obtain ⟨x, hx⟩ : ∃ x, x = l[k] := ⟨_, rfl⟩
      rw [← hx] at x0 ht
      clear hx hlay hown hbel
      go_wp2_with (at_builtin; refine app_one by_elem by_enc rfl (.tmp 14) (.tmp 19) rfl rfl (HO.out.alloc _) x wr.heap.size 1 rfl (Blk.lay (Blk.new _ _ _)) (by unfold maxLen; omega) (by omega) (by simp; omega) ?_; intro g' cap w1 hown1 hgrow hat hlt1)
      go_roundw
      case rel => exact ⟨k + 1, q ++ [x], some ⟨g', 0, none⟩, cap, by omega, by go_num, Lib.hid (by rw [ht.out, hq.out]), by simp; omega, by simp, by simpa using hown1, (HB.out.alloc hsz _).grown hgrow (by simp; omega) (fun b hb => (HO.out.lt b hb).1)⟩
      case measure => simp [intOf]; omega
    · obtain rfl : k = l.length := by omega
      have hqe : q = l := by rw [hq.out, List.take_length]
      subst hqe
      clear hown hbel hq hql hlt hk
      go_wp2
      go_loopw [5, 7] (fun out i wx => ∃ (k : Nat) (q2 : List UInt8) (A' : Option Addr) (c' : Nat), k ≤ m.length ∧ i = .int .i64 (k : Nat) ∧ Hid (q2 = q ++ m.take k) ∧ q2.length ≤ q.length + k ∧ out = .slice A' q2.length c' ∧ Own byC 1 5 wx w.heap.size out q2 ∧ Below w.heap.size w wx) (fun _ i _ => (m.length - intOf i).toNat)
      case atStart => exact ⟨0, q, A', c', Nat.zero_le _, rfl, Lib.hid (by simp), by omega, rfl, HO.out, HB.out⟩
      case round =>
        obtain ⟨k, q2, A2, c2, hk, rfl, hq, hql, rfl, hown, hbel⟩ := hrel
        have hsz2 := hbel.size
        have HO2 := Lib.hid hown
        have HB2 := Lib.hid hbel
        by_cases hlt : k < m.length
        · obtain ⟨b, off, rfl, hb, hlay⟩ := HK3.out (by omega)
          have x0 := ((hlay.of_heap (hbel.block b hb)).elem byC_len k hlt).by
          rw [Nat.mul_one] at x0
          have ht := Lib.hid (List.take_succ_eq_append_getElem hlt)
          obtain ⟨x, hx⟩ : ∃ x, x = m[k] := ⟨_, rfl⟩
          rw [← hx] at x0 ht
          clear hx hlay hown hbel
          go_wp2_with (at_builtin; refine app_one by_elem by_enc rfl (.tmp 27) (.tmp 32) rfl rfl (HO2.out.alloc _) x wr.heap.size 1 rfl (Blk.lay (Blk.new _ _ _)) (by unfold maxLen; omega) (by omega) (by simp; omega) ?_; intro g' cap w1 hown1 hgrow hat hlt1)
          go_roundw
          case rel => exact ⟨k + 1, q2 ++ [x], some ⟨g', 0, none⟩, cap, by omega, by go_num, Lib.hid (by rw [ht.out, hq.out, List.append_assoc]), by simp; omega, by simp, by simpa using hown1, (HB2.out.alloc hsz2 _).grown hgrow (by simp; omega) (fun b hb => (HO2.out.lt b hb).1)⟩
          case measure => simp [intOf]; omega
        · obtain rfl : k = m.length := by omega
          have hqe : q2 = q ++ m := by rw [hq.out, List.take_length]
          subst hqe
          clear hown hbel
          go_wp2
          go_ret
          exact ⟨_, rfl, HO2.out, HB2.out⟩

set_option maxRecDepth 100000 in
set_option maxHeartbeats 400000 in
theorem rframe_ok (l : List UInt8) (s : Value) (w : World) (hs : Sl byC w w.heap.size s l) (hl : l.length ≤ 600) :
    Calls Tryz.prog 102 #[s] w fun e w' => ∃ v, e = .returned v ∧ Sl byC w' w'.heap.size v (toBE 2 l.length ++ l) ∧ Below w.heap.size w w' ∧ ∀ g, v.ownBlock = some g → w.heap.size ≤ g ∧ g < w'.heap.size := by
  have HS := Lib.hid hs
  have hhead : toBE 2 l.length = [UInt8.ofNat (l.length / 256), UInt8.ofNat (l.length % 256)] := by
    have h : l.length / 256 % 256 = l.length / 256 := by omega
    simp [toBE, h]
  obtain ⟨A, ca, rfl, h1, h2, h3⟩ := hs
  clear h3
  have HJ := Lib.hid (fun (s : Value) (w : World) hs ht => rjoin_ok [UInt8.ofNat (l.length / 256), UInt8.ofNat (l.length % 256)] l s (.slice A l.length ca) w hs ht (by simp) (by omega))
  have HH := Lib.hid hhead
  clear hhead
  have hcells : [Value.int .u8 ((l.length : Int) / 256), Value.int .u8 ((l.length : Int) % 256)] = [UInt8.ofNat (l.length / 256), UInt8.ofNat (l.length % 256)].flatMap byC := by
    have h1 : l.length / 256 < 256 := by omega
    have h2 : l.length % 256 < 256 := by omega
    simp [byC, Nat.mod_eq_of_lt h1]
  have HC := Lib.hid hcells
  clear hcells
  go_enter Tryz.func102, Tryz.ntmps102
  go_wp2_with fail
  refine (HJ.out _ _ ?_ ?_).mono ?_
  · refine (Own.of_blk (base := w.heap.size) (k := 1) (e := 5) (g := w.heap.size) (cs := #[.int .u8 ((l.length : Int) / 256), .int .u8 ((l.length : Int) % 256)]) (Blk.new _ _ _) (Nat.le_refl _) HC.out byC_len (by unfold maxLen; simp)).sl
  · exact (HS.out.below ((Below.refl _ w).alloc (Nat.le_refl _) _)).more (by simp)
  rintro e w1 ⟨v, rfl, hown, hb⟩
  have HO := Lib.hid hown
  have HB := Lib.hid (((Below.refl _ w).alloc (Nat.le_refl _) _).trans (hb.mono (by simp)))
  clear hown hb
  go_wp2_with fail
  go_ret
  refine ⟨_, rfl, ?_, HB.out, fun g hg => ?_⟩
  · rw [HH.out]
    exact HO.out.sl
  · have := HO.out.lt g hg
    simp at this
    omega
end Go.Proofs.YtmgpfkoomlgcoaaGreat
