/-
  Numbers as bytes: num.Get, num.Put and the reference's Get, Put, Same. Conditions: as each states.
-/
import Derived.Test.YtldjgpnbkbmgoaaGreatDoorRows
import Derived.Test.YtldjgpnbkbmgoaaGreatDoorLib
import Derived.WalkKit
import Derived.WalkSpells
import Derived.WalkLawsBesides
import Derived.Deep.QuietTactic
import Derived.BigQuiet
import Derived.Lib.Hide
import Derived.IntWalk
namespace Go.Proofs.YtldjgpnbkbmgoaaGreatDoor
open Go.RowKit

def byC (b : UInt8) : List Value := [.int .u8 (b.toNat : Int)]
theorem byC_len (b : UInt8) : (byC b).length = 1 := rfl
theorem by_enc : EncOk byC 1 := ⟨byC_len, fun a u hu => by
  simp only [byC, List.mem_cons, List.not_mem_nil, or_false] at hu
  subst hu
  rfl⟩
theorem by_elem : ElemOk Tryz.prog 52 5 1 1 := ⟨Tryz.underlying52, by
  have h : (Tryz.prog.info? 5).map (fun i => (i.zero, i.size, i.bytes)) = some (some (.int .u8 0), 1, 1) := by kernel_rfl
  obtain ⟨i, hi, h1, h2, h3⟩ := info_parts h
  exact ⟨i, _, hi, h1, h2, h3, rfl⟩, by omega⟩
theorem Lay.by {w : World} {b off : Nat} {x : UInt8} (h : Lay w b off (byC x)) : w.cell? ⟨b, off, none⟩ = some (.int .u8 (x.toNat : Int)) := h 0 _ rfl

/-- The number of bytes, the highest first. -/
def beNat (l : List UInt8) : Nat := l.foldl (fun n x => 256 * n + x.toNat) 0
theorem beNat_snoc (l : List UInt8) (x : UInt8) : beNat (l ++ [x]) = 256 * beNat l + x.toNat := by unfold beNat; rw [List.foldl_append]; rfl
theorem beNat_lt : ∀ (k : Nat) (l : List UInt8), l.length = k → beNat l < 256 ^ k
  | 0, l, h => by
    have : l = [] := List.eq_nil_of_length_eq_zero h
    subst this
    decide
  | k + 1, l, h => by
    have hne : l ≠ [] := by intro e; subst e; simp at h
    obtain ⟨l', x, rfl⟩ : ∃ l' x, l = l' ++ [x] := ⟨l.dropLast, l.getLast hne, (List.dropLast_concat_getLast hne).symm⟩
    have hl : l'.length = k := by simpa using h
    have ih := beNat_lt k l' hl
    rw [beNat_snoc]
    have hx : x.toNat < 256 := x.toNat_lt
    rw [Nat.pow_succ]
    omega
/-- A number's bytes, so many, the highest first. -/
def toBE : Nat → Nat → List UInt8
  | 0, _ => []
  | k + 1, n => toBE k (n / 256) ++ [UInt8.ofNat (n % 256)]
theorem toBE_len : ∀ (k n : Nat), (toBE k n).length = k
  | 0, _ => rfl
  | k + 1, n => by simp [toBE, toBE_len k]
theorem beNat_toBE : ∀ (k n : Nat), n < 256 ^ k → beNat (toBE k n) = n
  | 0, n, h => by
    have h0 : n = 0 := by simpa using h
    subst h0
    rfl
  | k + 1, n, h => by
    have h1 : n / 256 < 256 ^ k := by rw [Nat.pow_succ] at h; omega
    rw [toBE, beNat_snoc, beNat_toBE k _ h1]
    have : (UInt8.ofNat (n % 256)).toNat = n % 256 := by simp
    rw [this]
    omega
theorem toBE_beNat : ∀ (k : Nat) (l : List UInt8), l.length = k → toBE k (beNat l) = l
  | 0, l, h => by
    have : l = [] := List.eq_nil_of_length_eq_zero h
    subst this
    rfl
  | k + 1, l, h => by
    have hne : l ≠ [] := by intro e; subst e; simp at h
    obtain ⟨l', x, rfl⟩ : ∃ l' x, l = l' ++ [x] := ⟨l.dropLast, l.getLast hne, (List.dropLast_concat_getLast hne).symm⟩
    have hl : l'.length = k := by simpa using h
    have hx : x.toNat < 256 := x.toNat_lt
    rw [beNat_snoc, toBE, show (256 * beNat l' + x.toNat) / 256 = beNat l' by omega, show (256 * beNat l' + x.toNat) % 256 = x.toNat by omega, toBE_beNat k l' hl]
    simp
theorem toBE_get : ∀ (k n j : Nat), j < k → (toBE k n)[j]? = some (UInt8.ofNat (n / 256 ^ (k - 1 - j) % 256))
  | 0, _, _, h => by omega
  | k + 1, n, j, h => by
    rw [toBE]
    by_cases hj : j < k
    · rw [List.getElem?_append_left (by rw [toBE_len]; exact hj), toBE_get k _ j hj]
      congr 3
      rw [Nat.div_div_eq_div_mul]
      congr 1
      rw [show k + 1 - 1 - j = (k - 1 - j) + 1 by omega, Nat.pow_succ, Nat.mul_comm]
    · obtain rfl : j = k := by omega
      rw [List.getElem?_append_right (by rw [toBE_len]; exact Nat.le_refl _), toBE_len]
      simp

theorem or_byte (a : Nat) (x : Nat) (hx : x < 256) : (256 * a) ||| x = 256 * a + x :=
  (Nat.two_pow_add_eq_or_of_lt (i := 8) (b := x) hx a).symm

set_option maxRecDepth 100000 in
set_option maxHeartbeats 400000 in
theorem rget_ok (l : List UInt8) (s : Value) (w : World) (B : Nat) (hs : Sl byC w B s l) (hl : l.length ≤ 8) :
    Calls Tryz.prog 105 #[s] w fun e w' => e = .returned (.int .u64 (beNat l : Nat)) ∧ w' = w := by
  obtain ⟨A, ca, rfl, h1, h2, h3⟩ := hs
  unfold maxLen at h2
  go_enter Tryz.func105, Tryz.ntmps105
  go_wp2
  go_loop [3, 4] (fun nv i => ∃ k : Nat, k ≤ l.length ∧ i = .int .i64 k ∧ nv = .int .u64 (beNat (l.take k) : Nat)) (fun _ i => (l.length - RowKit.intOf i).toNat)
  case atStart => exact ⟨0, Nat.zero_le _, rfl, rfl⟩
  case round =>
    obtain ⟨k, hk, rfl, rfl⟩ := hrel
    by_cases hlt : k < l.length
    · obtain ⟨b, off, rfl, _, hlay⟩ := h3 (by omega)
      have x0 := (hlay.elem byC_len k hlt).by
      rw [Nat.mul_one] at x0
      have hb := beNat_lt k (l.take k) (by simp; omega)
      have hb2 : beNat (l.take k) < 256 ^ 7 := Nat.lt_of_lt_of_le hb (Nat.pow_le_pow_right (by omega) (by omega))
      have hb3 : beNat (l.take k) < 72057594037927936 := by simpa using hb2
      have hs := Lib.hid (beNat_snoc (l.take k) l[k])
      have ht := Lib.hid (List.take_succ_eq_append_getElem hlt)
      have hx : l[k].toNat < 256 := l[k].toNat_lt
      obtain ⟨m, hm⟩ : ∃ m, m = beNat (l.take k) := ⟨_, rfl⟩
      obtain ⟨x, hxx⟩ : ∃ x, x = l[k].toNat := ⟨_, rfl⟩
      rw [← hm, ← hxx] at hs
      rw [← hm] at hb3 ⊢
      rw [← hxx] at x0 hx
      have HM := Lib.hid hm
      clear hb hb2 hlay h3 hm hxx
      go_wp2
      go_round
      case rel => exact ⟨k + 1, by omega, by go_num, by rw [ht.out, hs.out]; go_num⟩
      case measure => simp [RowKit.intOf]; omega
    · obtain rfl : k = l.length := by omega
      rw [List.take_length]
      go_wp2
      go_ret
      exact ⟨rfl, rfl⟩

theorem or_u64 (m x : Nat) (hm : m < 72057594037927936) (hx : x < 256) : bits .or .u64 ((m : Int) * 256) (x : Int) = ((256 * m + x : Nat) : Int) := by
  have h := u64_or_nat (256 * m) x (by omega) (by omega)
  rw [or_byte m x hx] at h
  rw [← h]
  congr 1
  omega

set_option maxRecDepth 100000 in
set_option maxHeartbeats 400000 in
theorem get_ok (l : List UInt8) (s : Value) (w : World) (B : Nat) (hs : Sl byC w B s l) (hl : l.length ≤ 8) (h0 : 0 < l.length) :
    Calls Tryz.prog 181 #[s] w fun e w' => e = .returned (.tuple #[.int .u64 (beNat l : Nat), .int .i64 0]) ∧ w' = w := by
  obtain ⟨A, ca, rfl, h1, h2, h3⟩ := hs
  unfold maxLen at h2
  go_enter Tryz.func181, Tryz.ntmps181
  go_wp2
  go_loop [4, 17] (fun nv i => ∃ k : Nat, k ≤ l.length ∧ i = .int .i64 k ∧ nv = .int .u64 (beNat (l.take k) : Nat)) (fun _ i => (l.length - RowKit.intOf i).toNat)
  case atStart => exact ⟨0, Nat.zero_le _, rfl, rfl⟩
  case round =>
    obtain ⟨k, hk, rfl, rfl⟩ := hrel
    by_cases hlt : k < l.length
    · obtain ⟨b, off, rfl, _, hlay⟩ := h3 (by omega)
      have x0 := (hlay.elem byC_len k hlt).by
      rw [Nat.mul_one] at x0
      have hb := beNat_lt k (l.take k) (by simp; omega)
      have hb2 : beNat (l.take k) < 256 ^ 7 := Nat.lt_of_lt_of_le hb (Nat.pow_le_pow_right (by omega) (by omega))
      have hb3 : beNat (l.take k) < 72057594037927936 := by simpa using hb2
      have hs := Lib.hid (beNat_snoc (l.take k) l[k])
      have ht := Lib.hid (List.take_succ_eq_append_getElem hlt)
      have hx : l[k].toNat < 256 := l[k].toNat_lt
      obtain ⟨m, hm⟩ : ∃ m, m = beNat (l.take k) := ⟨_, rfl⟩
      obtain ⟨x, hxx⟩ : ∃ x, x = l[k].toNat := ⟨_, rfl⟩
      rw [← hm, ← hxx] at hs
      rw [← hm] at hb3 ⊢
      rw [← hxx] at x0 hx
      have HM := Lib.hid hm
      clear hb hb2 hlay h3 hm hxx
      go_wp2
      go_round
      case rel => exact ⟨k + 1, by omega, by go_num, by rw [ht.out, hs.out, or_u64 m x hb3 hx]⟩
      case measure => simp [RowKit.intOf]; omega
    · obtain rfl : k = l.length := by omega
      rw [List.take_length]
      go_wp2
      go_ret2
      exact ⟨rfl, rfl⟩

def byEq (a b : UInt8) : Bool := decide (a = b)
set_option maxRecDepth 100000 in
set_option maxHeartbeats 400000 in
theorem rsame_ok (l m : List UInt8) (s t : Value) (w : World) (B : Nat) (hs : Sl byC w B s l) (ht : Sl byC w B t m) :
    Calls Tryz.prog 31 #[s, t] w fun e w' => e = .returned (.bool (decide (l = m))) ∧ ∃ n, w' = w.drewN n := by
  obtain ⟨A, ca, rfl, h1, h2, h3⟩ := hs
  obtain ⟨A', ca', rfl, h1', h2', h3'⟩ := ht
  unfold maxLen at h2 h2'
  by_cases hlen : l.length = m.length
  · have hL : ((l.length : Int) != (m.length : Int)) = false := by simp [hlen]
    have H := Lib.hid hlen
    clear hlen
    go_enter Tryz.func31, Tryz.ntmps31
    go_wp2
    go_loopw [5] (fun i wr => ∃ k : Nat, k ≤ l.length ∧ i = .int .i64 k ∧ l.take k = m.take k ∧ ∃ n, wr = w.drewN n) (fun i _ => (l.length - RowKit.intOf i).toNat)
    case atStart => exact ⟨0, Nat.zero_le _, rfl, by simp, 0, rfl⟩
    case round =>
      obtain ⟨k, hk, rfl, htk, n0, rfl⟩ := hrel
      by_cases hlt : k < l.length
      · obtain ⟨b, off, rfl, _, hl⟩ := h3 (by omega)
        have hkm : k < m.length := by rw [← H.out]; exact hlt
        obtain ⟨b', off', rfl, _, hm⟩ := h3' (by omega)
        have x0 := (hl.elem byC_len k hlt).by
        have y0 := (hm.elem byC_len k hkm).by
        rw [Nat.mul_one] at x0 y0
        have hst := Lib.hid (take_step hlt hkm htk)
        clear hl hm h3 h3' htk
        cases he : ((l[k].toNat : Int) != (m[k].toNat : Int))
        · have HE := Lib.hid he
          go_wp2
          go_quiet (fail)
          go_wp2
          go_roundw
          case rel => exact ⟨k + 1, by omega, by go_num, hst.out.2 (by have := HE.out; simp at this; exact UInt8.toNat_inj.1 (by omega)), _, rfl⟩
          case measure => simp [RowKit.intOf]; omega
        · have HE := Lib.hid he
          go_wp2
          go_quiet (fail)
          go_wp2
          go_ret
          exact ⟨ret_bool (by rw [eq_comm, decide_eq_false_iff_not]; intro hlm; have := HE.out; simp only [hlm] at this; simp at this), _, by rw [World.drewN_drewN]⟩
      · obtain rfl : k = l.length := by omega
        have hX := Lib.hid (take_eq_of_len H.out htk)
        clear htk
        go_wp2
        go_ret
        exact ⟨ret_bool (by rw [eq_comm, decide_eq_true_eq]; exact hX.out), _, rfl⟩
  · have hL : ((l.length : Int) != (m.length : Int)) = true := by simp; omega
    go_enter Tryz.func31, Tryz.ntmps31
    go_wp2
    go_ret
    exact ⟨ret_bool (by rw [eq_comm, decide_eq_false_iff_not]; intro hlm; exact hlen (by rw [hlm])), 0, rfl⟩

theorem by_flat : ∀ (l : List UInt8) (j : Nat), (l.flatMap byC)[j]? = l[j]?.map fun b => Value.int .u8 (b.toNat : Int)
  | [], j => by simp
  | a :: l, 0 => by simp [byC]
  | a :: l, j + 1 => by
    have := by_flat l j
    simpa [byC] using this
theorem two_pow_eq (k : Nat) : (2 : Int) ^ (8 * k) = ((256 ^ k : Nat) : Int) := by
  rw [Int.pow_mul]
  norm_cast

def PutPost (w : World) (l : List UInt8) (e : Ending) (w' : World) : Prop := ∃ v, e = .returned (.tuple #[v, .int .i64 0]) ∧ Own byC 1 5 w' w.heap.size v l ∧ Below w.heap.size w w'

set_option maxRecDepth 100000 in
set_option maxHeartbeats 1000000 in
theorem put_ok (n k : Nat) (w : World) (h1 : 1 ≤ k) (h2 : k ≤ 8) (hn : n < 18446744073709551616) (hk : n < 256 ^ k) :
    Calls Tryz.prog 157 #[.int .u64 n, .int .i64 k] w (PutPost w (toBE k n)) := by
  have hz : (n : Int) / 2 ^ (8 * k) = 0 := by
    rw [two_pow_eq, ← Int.natCast_ediv, Nat.div_eq_of_lt hk]
    rfl
  have HN := Lib.hid hn
  have HK := Lib.hid hk
  have hB0 := Lib.hid ((Below.refl w.heap.size w).alloc (Nat.le_refl _) (.cells #[.int .u8 0, .int .u8 0, .int .u8 0, .int .u8 0, .int .u8 0, .int .u8 0, .int .u8 0, .int .u8 0] 299))
  have hb0 := Lib.hid (Blk.new w 299 #[.int .u8 0, .int .u8 0, .int .u8 0, .int .u8 0, .int .u8 0, .int .u8 0, .int .u8 0, .int .u8 0])
  obtain ⟨i0, z0, hi, hz0, hsz, hby, hzs⟩ := by_elem.inf
  have HI := Lib.hid (And.intro hi (And.intro hz0 (And.intro hsz (And.intro hby hzs))))
  clear hn hk hi hz0 hsz hby hzs
  by_cases h8 : k < 8
  all_goals
    go_enter Tryz.func157, Tryz.ntmps157
    go_wp2
    go_loopw [7, 26] (fun _ iv wr => ∃ i cs, i ≤ k ∧ iv = .int .i64 (i : Nat) ∧ Blk wr w.heap.size 299 cs ∧ cs.size = 8 ∧ (∀ j, j < 8 → ∃ u, cs[j]? = some (.int .u8 u)) ∧ (∀ j, k - i ≤ j → j < k → cs[j]? = some (.int .u8 ((n / 256 ^ (k - 1 - j) % 256 : Nat) : Int))) ∧ Below w.heap.size w wr) (fun _ iv _ => (k - RowKit.intOf iv).toNat)
    case atStart => exact ⟨0, _, Nat.zero_le _, rfl, hb0.out, rfl, fun j hj => by (match j, hj with | 0, _ => exact ⟨_, rfl⟩ | 1, _ => exact ⟨_, rfl⟩ | 2, _ => exact ⟨_, rfl⟩ | 3, _ => exact ⟨_, rfl⟩ | 4, _ => exact ⟨_, rfl⟩ | 5, _ => exact ⟨_, rfl⟩ | 6, _ => exact ⟨_, rfl⟩ | 7, _ => exact ⟨_, rfl⟩), fun j hj hj2 => by omega, hB0.out⟩
    case round =>
      obtain ⟨i, cs, hik, rfl, hblk, hcsz, hany, hcs, hbel⟩ := hrel
      by_cases hlt : i < k
      · obtain ⟨j0, hj0⟩ : ∃ j0, j0 + i + 1 = k := ⟨k - i - 1, by omega⟩
        have hix : (k : Int) - 1 - (i : Int) = (j0 : Int) := by omega
        obtain ⟨u0, hu0⟩ := hany j0 (by omega)
        have c0 := hblk.is j0 hu0
        have f0 := hblk.frozen j0
        have hj8 : j0 < 8 := by omega
        have HB := Lib.hid hblk
        have HC := Lib.hid hcs
        have HA := Lib.hid hany
        have HJ := Lib.hid hj0
        have HX := Lib.hid hix
        have HS := Lib.hid hcsz
        clear hblk hcs hany hj0 hcsz hu0
        go_wp2
        go_roundw
        case rel =>
          have hj := HJ.out
          have hv : (n : Int) / 2 ^ (8 * i) % 256 = ((n / 256 ^ (k - 1 - j0) % 256 : Nat) : Int) := by
            rw [two_pow_eq, show k - 1 - j0 = i by omega]
            norm_cast
          refine ⟨i + 1, _, by omega, by go_num, HB.out.put j0 _, by rw [Array.size_setIfInBounds]; exact HS.out, fun j hj8' => ?_, fun j h3 h4 => ?_, hbel.setCell (Nat.le_refl _) _⟩
          · rw [Array.getElem?_setIfInBounds]
            split
            · exact ⟨_, by rw [if_pos (by rw [HS.out]; exact hj8)]⟩
            · exact HA.out j hj8'
          · rw [Array.getElem?_setIfInBounds]
            by_cases e : j0 = j
            · subst e
              rw [if_pos rfl, if_pos (by rw [HS.out]; exact hj8), hv]
            · rw [if_neg e]
              exact HC.out j (by omega) h4
        case measure => simp [RowKit.intOf]; omega
      · obtain rfl : i = k := by omega
        have hlay : ∀ j u, ((toBE i n).flatMap byC)[j]? = some u → wr.cell? ((⟨w.heap.size, 0, none⟩ : Addr).add j) = some u := fun j u hu => by
          have hadd : (⟨w.heap.size, 0, none⟩ : Addr).add j = ⟨w.heap.size, j, none⟩ := by unfold Addr.add; split <;> simp_all
          rw [by_flat] at hu
          have hjk : j < i := by
            rcases Nat.lt_or_ge j i with h | h
            · exact h
            · rw [List.getElem?_eq_none (by rw [toBE_len]; exact h)] at hu
              cases hu
          rw [toBE_get i n j hjk, Option.map_some, Option.some.injEq] at hu
          rw [hadd, hblk.cell, hcs j (by omega) hjk, ← hu]
          simp
        have HL := Lib.hid hlay
        have hwr := hblk.lt
        clear hlay hblk hany hcs hcsz
        go_wp2_with (at_builtin; refine wpList_append_own _ rfl (.const (.slice none 0 0)) (.tmp 41) 52 rfl w.heap.size 5 i0 z0 1 1 Tryz.underlying52 HI.out.1 HI.out.2.1 HI.out.2.2.1 HI.out.2.2.2.1 HI.out.2.2.2.2 (by omega) _ 0 [] rfl (World.ownsRow_nil wr w.heap.size 5 1) ⟨w.heap.size, 0, none⟩ i 8 ((toBE i n).flatMap byC) rfl (by rw [flat_length byC_len, toBE_len]) HL.out (by_enc.flat _) (by unfold maxLen; omega) (by omega) (by omega) ?_; intro v' w1 hown hgrow _)
        go_ret2
        refine ⟨v', rfl, ?_, hbel.grown hgrow (by omega) (fun b hb => by cases hb)⟩
        unfold Own
        rw [toBE_len]
        simpa using hown

def RPut (w : World) (k n : Nat) (e : Ending) (w' : World) : Prop := ∃ v, e = .returned (.tuple #[v, .bool (decide (n < 256 ^ k))]) ∧ Own byC 1 5 w' w.heap.size v (toBE k n) ∧ Below w.heap.size w w'

set_option maxRecDepth 100000 in
set_option maxHeartbeats 1000000 in
theorem rput_ok : ∀ (k n : Nat) (w : World), k + 1 ≤ 8 → n < 18446744073709551616 →
    Calls Tryz.prog 74 #[.int .u64 n, .int .i64 ((k : Int) + 1)] w (RPut w (k + 1) n)
  | 0, n, w, h2, hn => by
    have HN := Lib.hid hn
    have hb := Blk.new w 5 #[.int .u8 ((n : Int) % 256)]
    have HB := Lib.hid hb
    clear hn hb
    rw [show (((0 : Nat) : Int) + 1) = 1 from rfl]
    go_enter Tryz.func74, Tryz.ntmps74
    go_wp2
    go_ret2
    refine ⟨.slice (some ⟨w.heap.size, 0, none⟩) 1 1, ?_, Own.of_blk (l := toBE 1 n) HB.out (Nat.le_refl _) ?_ byC_len (by rw [toBE_len]; unfold maxLen; omega), (Below.refl _ _).alloc (Nat.le_refl _) _⟩
    · have : decide (n < 256 ^ (0 + 1)) = decide ((n : Int) < 256) := by
        apply decide_eq_decide.2
        simp
        omega
      rw [this]
      rfl
    · simp [toBE, byC]
  | k + 1, n, w, h2, hn => by
    have ih := rput_ok k (n / 256) w (by omega) (by omega)
    have HI := Lib.hid ih
    have hk : (k : Int) ≤ 6 := by omega
    have hk0 : 0 ≤ (k : Int) := by omega
    have HN := Lib.hid hn
    have hlen := Lib.hid (toBE_len (k + 1) (n / 256))
    have hd : IntKind.u64.wrap ((n : Int) / 256) = ((n / 256 : Nat) : Int) := by rw [IntKind.wrap_u64]; omega
    have HD := Lib.hid hd
    clear hn ih hd
    rw [show (((k + 1 : Nat) : Int) + 1) = (k : Int) + 1 + 1 by omega]
    go_enter Tryz.func74, Tryz.ntmps74
    go_wp2_with fail
    rw [HD.out]
    refine HI.out.mono ?_
    rintro e w1 ⟨v, rfl, hown, hbel⟩
    have HO := Lib.hid (hown.alloc (.cells #[.int .u8 ((n : Int) % 256)] 5))
    have hb := Lib.hid (Blk.new w1 5 #[.int .u8 ((n : Int) % 256)])
    have hsz := hbel.size
    have hlay : Hid (Lay (w1.alloc (.cells #[.int .u8 ((n : Int) % 256)] 5)) w1.heap.size 0 (byC (UInt8.ofNat (n % 256)))) := by
      have := hb.out.lay
      have e : byC (UInt8.ofNat (n % 256)) = [.int .u8 ((n : Int) % 256)] := by simp [byC]
      unfold Hid
      rw [e]
      exact this
    clear hown
    go_wp2_with (at_builtin; refine app_one by_elem by_enc rfl (.tmp 30) (.tmp 34) rfl rfl HO.out (UInt8.ofNat (n % 256)) w1.heap.size 1 rfl hlay.out (by rw [hlen.out]; unfold maxLen; omega) (by rw [hlen.out]; omega) (by simp; omega) ?_; intro g' cap w2 hown2 hgrow hat hlt2)
    go_ret2
    refine ⟨_, ?_, hown2, (hbel.alloc hbel.size _).grown hgrow (by simp; omega) (fun b hb => (HO.out.lt b hb).1)⟩
    have : decide (n < 256 ^ (k + 1 + 1)) = decide (n / 256 < 256 ^ (k + 1)) := by
      apply decide_eq_decide.2
      rw [Nat.pow_succ 256 (k + 1)]
      omega
    rw [this]
    rfl
end Go.Proofs.YtldjgpnbkbmgoaaGreatDoor
