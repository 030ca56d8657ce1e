/-
  The reference's numbers' texts. Conditions: none. A line's words read: unhex, the reader's word, number, draw and bytes, secret. Conditions: texts of a known greatest length. The program's texts: small, hex, an item's line, a job's text. Conditions: as each states.
-/
import Derived.Test.YtldjgpnbkbmgoaaGreatDoorWriter
import Derived.Test.YtldjgpnbkbmgoaaGreatDoorPP1
import Derived.Test.YtldjgpnbkbmgoaaGreatDoorPP2
import Derived.Test.YtldjgpnbkbmgoaaGreatDoorPP3
import Derived.Test.YtldjgpnbkbmgoaaGreatDoorLine
import Derived.Deep.QuietTactic
import Derived.BigQuiet
import Derived.Deep.RegionHeld3
import Derived.Deep.DeepCutAuto
set_option linter.unusedSimpArgs false
set_option linter.unusedVariables false
set_option maxRecDepth 100000
set_option maxHeartbeats 8000000
namespace Go.Proofs.YtldjgpnbkbmgoaaGreatDoor
open Go.RowKit
def QuietPost (w : World) (l : List UInt8) (e : Ending) (w' : World) : Prop := e = .returned (strV l) ∧ ∃ m, w' = w.drewN m
theorem dig_ext (n : Nat) : Value.string ((ByteArray.mk #[48, 49, 50, 51, 52, 53, 54, 55, 56, 57]).extract (n % 10) (n % 10 + 1)) = strV [dg n] := by
  have h : dg n = UInt8.ofNat (48 + n % 10) := rfl
  rw [h]
  obtain ⟨k, hk⟩ : ∃ k, n % 10 = k := ⟨_, rfl⟩
  rw [hk]
  have : k = 0 ∨ k = 1 ∨ k = 2 ∨ k = 3 ∨ k = 4 ∨ k = 5 ∨ k = 6 ∨ k = 7 ∨ k = 8 ∨ k = 9 := by omega
  rcases this with rfl | rfl | rfl | rfl | rfl | rfl | rfl | rfl | rfl | rfl <;> rfl
theorem str_add (a b : List UInt8) (h : a.length + b.length ≤ 9223372036854775807) (w : World) : (Op.stringOp .add ⟨a.toArray⟩ ⟨b.toArray⟩).run Tryz.prog w = .ok (strV (a ++ b)) w := by
  rw [run_string_add_sum w _ _ (by rw [str_size, str_size]; exact h), ba_add]
theorem dig_cut (n : Nat) (w : World) : (Instr.slice 9 (.string ⟨#[48, 49, 50, 51, 52, 53, 54, 55, 56, 57]⟩) (some (.int .i64 ((n : Int) % 10))) (some (.int .i64 ((n : Int) % 10 + 1))) none).run Tryz.prog w = .ok (strV [dg n]) w := by
  have h : dg n = UInt8.ofNat (48 + n % 10) := rfl
  rw [h]
  have e : (n : Int) % 10 = ((n % 10 : Nat) : Int) := by omega
  rw [e]
  obtain ⟨k, hk⟩ : ∃ k, n % 10 = k := ⟨_, rfl⟩
  rw [hk]
  have : k = 0 ∨ k = 1 ∨ k = 2 ∨ k = 3 ∨ k = 4 ∨ k = 5 ∨ k = 6 ∨ k = 7 ∨ k = 8 ∨ k = 9 := by omega
  rcases this with rfl | rfl | rfl | rfl | rfl | rfl | rfl | rfl | rfl | rfl <;> rfl
theorem ret_v {a b : Value} (h : a = b) : Ending.returned a = .returned b := by rw [h]
theorem rtext_go : ∀ (k n : Nat) (w : World), k ≤ 1000 → n < 10 ^ (k + 1) → n < 18446744073709551616 → Calls Tryz.prog 79 #[.int .u64 (n : Nat)] w (QuietPost w (txtF k n)) := by
  intro k
  induction k with
  | zero =>
    intro n w _ h h2
    have h10 : (n : Int) < 10 := by simp at h; omega
    have hd := Lib.hid (dig_ext n)
    clear h
    go_enter Tryz.func79, Tryz.ntmps79
    go_wp2
    go_ret
    exact ⟨ret_v hd.out, 0, rfl⟩
  | succ k ih =>
    intro n w hk h h2
    by_cases h10 : n < 10
    · have e : txtF (k + 1) n = [dg n] := by unfold txtF; rw [if_pos h10]
      rw [e]
      have h11 : (n : Int) < 10 := by omega
      have hd := Lib.hid (dig_ext n)
      clear e h h10 ih hk
      go_enter Tryz.func79, Tryz.ntmps79
      go_wp2
      go_ret
      exact ⟨ret_v hd.out, 0, rfl⟩
    · have e : txtF (k + 1) n = txtF k (n / 10) ++ [dg n] := by
        show (if n < 10 then [dg n] else txtF k (n / 10) ++ [dg n]) = _
        rw [if_neg h10]
      have hxx : (txtF k (n / 10)).length ≤ 9223372036854775000 := by have := txtF_len k (n / 10); omega
      have hih : ∀ w, Calls Tryz.prog 79 #[.int .u64 ((n : Int) / 10)] w fun e w' => e = .returned (strV (txtF k (n / 10))) ∧ ∃ m, w' = w.drewN m := fun w => by
        have := ih (n / 10) w (by omega) (by rw [Nat.pow_succ] at h; omega) (by omega)
        rw [Int.natCast_ediv] at this
        exact this
      rw [e]
      have h11 : ¬ (n : Int) < 10 := by omega
      have HI := Lib.hid hih
      have hw1 : IntKind.i64.wrap ((n : Int) % 10 + 1) = (n : Int) % 10 + 1 := by rw [IntKind.wrap_i64]; omega
      have hw2 : IntKind.u64.wrap ((n : Int) / 10) = (n : Int) / 10 := by rw [IntKind.wrap_u64]; omega
      have hd := fun w => dig_cut n w
      obtain ⟨x, hx⟩ : ∃ x, x = txtF k (n / 10) := ⟨_, rfl⟩
      obtain ⟨d, hdd⟩ : ∃ d, d = [dg n] := ⟨_, rfl⟩
      have hxl : x.length ≤ 9223372036854775000 := by rw [hx]; exact hxx
      rw [← hx] at HI
      rw [← hdd] at hd
      rw [← hx, ← hdd]
      have hadd := fun w => str_add x d (by rw [hdd]; simp; omega) w
      clear e h h10 ih hih hk hxl hxx hx hdd
      go_enter Tryz.func79, Tryz.ntmps79
      go_wp2
      go_quiet ((go_at_call 79; with_reducible exact Calls.quiet_of (HI.out _)))
      go_wp2
      go_ret
      exact ⟨rfl, _, rfl⟩
theorem rtext_ok (n : Nat) (w : World) (h : n < 18446744073709551616) : Calls Tryz.prog 79 #[.int .u64 (n : Nat)] w (QuietPost w (txt n)) :=
  rtext_go 19 n w (by omega) (Nat.lt_trans h (by decide)) h
theorem hex_ext (m : Nat) : (ByteArray.mk #[48, 49, 50, 51, 52, 53, 54, 55, 56, 57, 97, 98, 99, 100, 101, 102]).extract (m % 16) (m % 16 + 1) = ⟨[hd (m % 16)].toArray⟩ := by
  obtain ⟨k, hk⟩ : ∃ k, m % 16 = k := ⟨_, rfl⟩
  rw [hk]
  have : k = 0 ∨ k = 1 ∨ k = 2 ∨ k = 3 ∨ k = 4 ∨ k = 5 ∨ k = 6 ∨ k = 7 ∨ k = 8 ∨ k = 9 ∨ k = 10 ∨ k = 11 ∨ k = 12 ∨ k = 13 ∨ k = 14 ∨ k = 15 := by omega
  rcases this with rfl | rfl | rfl | rfl | rfl | rfl | rfl | rfl | rfl | rfl | rfl | rfl | rfl | rfl | rfl | rfl <;> rfl
def SamePost (w : World) (l : List UInt8) (e : Ending) (w' : World) : Prop := e = .returned (strV l) ∧ w' = w
theorem rhexT_ok (n : Nat) (w : World) (hn : n < 18446744073709551616) : Calls Tryz.prog 29 #[.int .u64 (n : Nat)] w (SamePost w (hexT n)) := by
  have H := Lib.hid hn
  clear hn
  go_enter Tryz.func29, Tryz.ntmps29
  go_wp2
  go_loop [0, 4, 5] (fun nv sv iv => ∃ i m, i ≤ 16 ∧ iv = .int .i64 (i : Nat) ∧ nv = .int .u64 (m : Nat) ∧ m = n / 16 ^ i ∧ sv = strV (hexF i n)) (fun _ _ iv => (16 - intOf iv).toNat)
  case atStart => exact ⟨0, n, by omega, rfl, rfl, by simp, rfl⟩
  case round =>
    obtain ⟨i, m, hi, rfl, rfl, hm, rfl⟩ := hrel
    by_cases hlt : i < 16
    · have hi16 : (i : Int) < 16 := by omega
      have hm64 : m < 18446744073709551616 := by rw [hm]; exact Nat.lt_of_le_of_lt (Nat.div_le_self _ _) H.out
      have hx := hex_ext m
      obtain ⟨d, hdd⟩ : ∃ d, d = [hd (m % 16)] := ⟨_, rfl⟩
      rw [← hdd] at hx
      have hs : hexF (i + 1) n = d ++ hexF i n := by rw [hexF_front, hdd, hm]; rfl
      have HS := Lib.hid hs
      have hl : (hexF i n).length = i := hexF_len i n
      obtain ⟨s, hss⟩ : ∃ s, s = hexF i n := ⟨_, rfl⟩
      rw [← hss] at HS hl ⊢
      have hadd := fun w => str_add d s (by rw [hdd, hl]; simp; omega) w
      have HM := Lib.hid hm
      clear hdd hss hs hm hl
      go_wp2
      exact ⟨⟨i + 1, m / 16, by omega, by go_num, by rw [Int.natCast_ediv]; rfl, by rw [HM.out, Nat.div_div_eq_div_mul, Nat.pow_succ], by rw [HS.out]⟩, by simp [intOf]; omega⟩
    · obtain rfl : i = 16 := by omega
      go_wp2
      go_ret
      exact ⟨rfl, rfl⟩
theorem rtext_eq (x : Int) (m : Nat) (hx : x = (m : Int)) (hm : m < 18446744073709551616) (w : World) : Calls Tryz.prog 79 #[.int .u64 x] w (QuietPost w (txt m)) := by
  subst hx
  exact rtext_ok m w hm
theorem rhexT_eq (x : Int) (m : Nat) (hx : x = (m : Int)) (hm : m < 18446744073709551616) (w : World) : Calls Tryz.prog 29 #[.int .u64 x] w (SamePost w (hexT m)) := by
  subst hx
  exact rhexT_ok m w hm
def wordsT (ns : List Int) : List UInt8 := ns.flatMap fun n => 32 :: txt (u64n n)
theorem wordsT_len (ns : List Int) : (wordsT ns).length ≤ 21 * ns.length := by
  unfold wordsT
  induction ns with
  | nil => simp
  | cons a ns ih =>
    have : (txt (u64n a)).length ≤ 20 := txtF_len 19 (u64n a)
    simp only [List.flatMap_cons, List.length_append, List.length_cons]
    omega
theorem rwords_ok (ns : List Int) (g : Nat) (w : World) (hs : Lay w g 0 (ns.flatMap nmC)) (hn : ns.length ≤ 1000) : Calls Tryz.prog 81 #[.slice (some ⟨g, 0, none⟩) ns.length ns.length] w (QuietPost w (wordsT ns)) := by
  have HL := Lib.hid hs
  clear hs
  go_enter Tryz.func81, Tryz.ntmps81
  go_wp2
  go_loopw [3, 4] (fun sv iv wr => ∃ k, k ≤ ns.length ∧ iv = .int .i64 (k : Nat) ∧ sv = strV (wordsT (ns.take k)) ∧ ∃ m, wr = w.drewN m) (fun _ iv _ => (ns.length - intOf iv).toNat)
  case atStart => exact ⟨0, Nat.zero_le _, rfl, rfl, 0, rfl⟩
  case round =>
    obtain ⟨k, hk, rfl, rfl, m, hm⟩ := hrel
    by_cases hlt : k < ns.length
    · obtain ⟨n, hnn⟩ : ∃ n, n = ns[k] := ⟨_, rfl⟩
      have x0 := (HL.out.elem nmC_len k hlt).nm
      rw [Nat.mul_one, Nat.zero_add, ← hnn] at x0
      have x1 : wr.cell? ⟨g, k, none⟩ = some (.int .i64 n) := by rw [hm]; exact x0
      have hst : wordsT (ns.take (k + 1)) = wordsT (ns.take k) ++ [32] ++ txt (u64n n) := by
        rw [List.take_succ_eq_append_getElem hlt, ← hnn]
        simp [wordsT]
      have HS := Lib.hid hst
      have hl1 := wordsT_len (ns.take k)
      have hl2 := List.length_take_le k ns
      have hl3 := txtF_len 19 (u64n n)
      obtain ⟨s, hss⟩ : ∃ s, s = wordsT (ns.take k) := ⟨_, rfl⟩
      rw [← hss] at HS hl1 ⊢
      have hadd1 := fun w => str_add s [32] (by simp; omega) w
      obtain ⟨t, ht⟩ : ∃ t, t = txt (u64n n) := ⟨_, rfl⟩
      have hl4 : t.length ≤ 20 := by rw [ht]; exact hl3
      have hadd2 := fun w => str_add (s ++ [32]) t (by simp; omega) w
      have HC := Lib.hid (fun w => rtext_eq (IntKind.u64.wrap n) (u64n n) (u64n_wrap n) (u64n_lt n) w)
      rw [← ht] at HC HS
      have hlti : (k : Int) < (ns.length : Int) := by omega
      have HM := Lib.hid hm
      clear x0 hst hl1 hl2 hl3 hl4 hss ht hm hnn
      go_wp2_with fail
      refine (HC.out _).mono ?_
      rintro e w' ⟨rfl, m2, hw'⟩
      have HM2 := Lib.hid (show w' = w.drewN (m + m2) by rw [hw', HM.out, World.drewN_drewN])
      clear hw'
      go_wp2
      go_roundw
      case rel => exact ⟨k + 1, by omega, by go_num, by rw [HS.out]; first | done | simp, _, HM2.out⟩
      case measure => simp [intOf]; omega
    · obtain rfl : k = ns.length := by omega
      rw [List.take_length]
      go_wp2
      go_ret
      first | exact ⟨rfl, _, hm⟩ | exact ⟨rfl, _, rfl⟩
theorem rquoted_ok (l : List UInt8) (w : World) (hl : l.length ≤ 35184372088832) : Calls Tryz.prog 82 #[strV l] w (SamePost w (quo l)) := by
  by_cases h0 : l = []
  · subst h0
    go_enter Tryz.func82, Tryz.ntmps82
    go_wp2
    go_ret
    exact ⟨rfl, rfl⟩
  · have he : l.isEmpty = false := by simpa using h0
    have hq : quo l = l.flatMap qb := by unfold quo; rw [if_neg h0]
    have HQ := Lib.hid hq
    have e : ∀ m : List UInt8, (m.flatMap qb).length ≤ 3 * m.length := fun m => by
      induction m with
      | nil => simp
      | cons a m ih =>
        have := (qb_len a).2
        simp only [List.flatMap_cons, List.length_append, List.length_cons]
        omega
    have HE := Lib.hid e
    clear hq h0 e
    go_enter Tryz.func82, Tryz.ntmps82
    go_wp2
    go_loop [3, 4] (fun sv iv => ∃ k, k ≤ l.length ∧ iv = .int .i64 (k : Nat) ∧ sv = strV ((l.take k).flatMap qb)) (fun _ iv => (l.length - intOf iv).toNat)
    case atStart => exact ⟨0, Nat.zero_le _, rfl, rfl⟩
    case round =>
      obtain ⟨k, hk, rfl, rfl⟩ := hrel
      have hfl := HE.out (l.take k)
      have hfl2 := List.length_take_le k l
      by_cases hlt : k < l.length
      · obtain ⟨c, hc⟩ : ∃ c, c = l[k] := ⟨_, rfl⟩
        have hyk : ∀ w, (Instr.index 9 (strV l) (.int .i64 (k : Int))).run Tryz.prog w = .ok (.int .u8 (c.toNat : Int)) w := fun w => by rw [hc]; exact str_ix hlt w
        have hst : (l.take (k + 1)).flatMap qb = (l.take k).flatMap qb ++ qb c := by rw [List.take_succ_eq_append_getElem hlt, List.flatMap_append, ← hc]; simp
        have hcut : (ByteArray.mk l.toArray).extract k (k + 1) = ⟨[c].toArray⟩ := by
          rw [ba_cut, List.drop_take, show k + 1 - k = 1 by omega, List.drop_eq_getElem_cons hlt, ← hc]
          rfl
        have HS := Lib.hid hst
        obtain ⟨s, hss⟩ : ∃ s, s = (l.take k).flatMap qb := ⟨_, rfl⟩
        rw [← hss] at HS hfl ⊢
        have hlti : (k : Int) < (l.length : Int) := by omega
        have hc256 : c.toNat < 256 := c.toNat_lt
        clear hc hst hss
        cases hp : plainB c
        · have hqb : qb c = [92] ++ [hd (c.toNat / 16), hd (c.toNat % 16)] := by unfold qb; rw [if_neg (by simp [hp])]; rfl
          have HQB := Lib.hid hqb
          have h14 := hexT_byte c.toNat c.toNat_lt
          have hcut2 : (ByteArray.mk (hexT c.toNat).toArray).extract 14 16 = ⟨[hd (c.toNat / 16), hd (c.toNat % 16)].toArray⟩ := by
            rw [ba_cut, List.take_of_length_le (by rw [show (hexT c.toNat).length = 16 from hexF_len 16 _]; decide), h14]
          have hadd1 := fun w => str_add s [92] (by simp; omega) w
          obtain ⟨t, ht⟩ : ∃ t, t = [hd (c.toNat / 16), hd (c.toNat % 16)] := ⟨_, rfl⟩
          rw [← ht] at HQB hcut2
          have hadd2 := fun w => str_add (s ++ [92]) t (by rw [ht]; simp; omega) w
          have hcase : ((c.toNat : Int) < 33) ∨ (33 ≤ (c.toNat : Int) ∧ 126 < (c.toNat : Int)) ∨ (33 ≤ (c.toNat : Int) ∧ (c.toNat : Int) ≤ 126 ∧ ((c.toNat : Int) != 92) = false) ∨ (33 ≤ (c.toNat : Int) ∧ (c.toNat : Int) ≤ 126 ∧ ((c.toNat : Int) != 92) = true ∧ ((c.toNat : Int) != 45) = false) := by
            unfold plainB at hp
            simp only [Bool.and_eq_false_iff, decide_eq_false_iff_not, bne_iff_ne, bne_eq_false_iff_eq] at hp ⊢
            omega
          have HH := Lib.hid (fun w => rhexT_eq (c.toNat : Int) c.toNat rfl (by omega) w)
          obtain ⟨x, hx⟩ : ∃ x, x = hexT c.toNat := ⟨_, rfl⟩
          have hxl : x.length = 16 := by rw [hx]; exact hexF_len 16 _
          rw [← hx] at HH hcut2
          have hxs : (ByteArray.mk x.toArray).size = 16 := by rw [str_size, hxl]
          clear hqb ht h14 hp hx
          rcases hcase with k1 | ⟨k1, k2⟩ | ⟨k1, k2, k3⟩ | ⟨k1, k2, k3, k4⟩
          all_goals
            go_wp2_with fail
            refine (HH.out _).mono ?_
            rintro e w' ⟨rfl, hw'⟩
            rw [hw']
            clear hw' w'
            go_wp2
            go_round
            case rel => exact ⟨k + 1, by omega, by go_num, by rw [HS.out, HQB.out]; first | done | simp⟩
            case measure => simp [intOf]; omega
        · have hqb : qb c = [c] := by unfold qb; rw [if_pos hp]
          have HQB := Lib.hid hqb
          have hk : 33 ≤ (c.toNat : Int) ∧ (c.toNat : Int) ≤ 126 ∧ ((c.toNat : Int) != 92) = true ∧ ((c.toNat : Int) != 45) = true := by
            unfold plainB at hp
            simp only [Bool.and_eq_true, decide_eq_true_eq, bne_iff_ne] at hp ⊢
            omega
          obtain ⟨k1, k2, k3, k4⟩ := hk
          obtain ⟨t, ht⟩ : ∃ t, t = [c] := ⟨_, rfl⟩
          rw [← ht] at HQB hcut
          have hadd := fun w => str_add s t (by rw [ht]; simp; omega) w
          clear hqb hp ht
          go_wp2
          exact ⟨⟨k + 1, by omega, by go_num, by rw [HS.out, HQB.out]⟩, by simp [intOf]; omega⟩
      · obtain rfl : k = l.length := by omega
        rw [List.take_length]
        go_wp2
        go_ret
        rw [HQ.out]
        exact ⟨rfl, rfl⟩
end Go.Proofs.YtldjgpnbkbmgoaaGreatDoor

namespace Go.Proofs.YtldjgpnbkbmgoaaGreatDoor
open Go.RowKit Go.Lib
attribute [local go_sem ↓] load_req stop_req
def RdB (w : World) (g : Nat) (r : HRd) : Prop := Blk w g 81 #[strV r.1, .bool r.2]
theorem RdB.lt {w : World} {g : Nat} {r : HRd} (h : RdB w g r) : g < w.heap.size := Blk.lt h
theorem RdB.below {w w' : World} {g : Nat} {r : HRd} (h : RdB w g r) (hb : Below w.heap.size w w') : RdB w' g r := Blk.below h hb h.lt
theorem RdB.rest {w : World} {g : Nat} {r : HRd} (h : RdB w g r) : w.cell? ⟨g, 0, none⟩ = some (strV r.1) := Blk.is h 0 rfl
theorem RdB.bad {w : World} {g : Nat} {r : HRd} (h : RdB w g r) : w.cell? ⟨g, 1, none⟩ = some (.bool r.2) := Blk.is h 1 rfl
theorem RdB.fz {w : World} {g i : Nat} {r : HRd} (h : RdB w g r) : w.frozen? ⟨g, i, none⟩ = false := Blk.frozen h i
end Go.Proofs.YtldjgpnbkbmgoaaGreatDoor

namespace Go.Proofs.YtldjgpnbkbmgoaaGreatDoor
open Go.RowKit Go.Lib
attribute [local go_sem ↓] load_req stop_req
theorem hsmall_ok (n : Int) (w : World) : Calls Tryz.prog 42 #[.int .i64 n] w (SPost w (smallT n)) := by
  have HC := Lib.hid (fun w => ntext_eq (IntKind.u64.wrap n) (u64n n) (u64n_wrap n) (u64n_lt n) w)
  go_enter Tryz.func42, Tryz.ntmps42
  go_wp2_with fail
  refine (HC.out _).mono ?_
  rintro e w1 ⟨rfl, hb⟩
  have HB := Lib.hid hb
  clear hb
  go_wp2_with fail
  go_ret
  exact ⟨rfl, HB.out⟩
def twoD (c : UInt8) : List UInt8 := [hd (c.toNat / 16), hd (c.toNat % 16)]
def hexP (l : List UInt8) : List UInt8 := l.flatMap twoD
theorem hexP_snoc (l : List UInt8) (c : UInt8) : hexP (l ++ [c]) = hexP l ++ twoD c := by simp [hexP]
theorem hexP_len (l : List UInt8) : (hexP l).length = 2 * l.length := by
  induction l with
  | nil => rfl
  | cons a l ih =>
    have : hexP (a :: l) = twoD a ++ hexP l := by simp [hexP]
    rw [this, List.length_append, ih]
    simp [twoD]
    omega
theorem hexB_P {l : List UInt8} (h : l ≠ []) : hexB l = hexP l := by unfold hexB; rw [if_neg h]; rfl
theorem hexB_len (l : List UInt8) : (hexB l).length ≤ 2 * l.length + 1 := by
  by_cases h : l = []
  · subst h; decide
  · rw [hexB_P h, hexP_len]; omega
theorem hex_cut (c : UInt8) (w : World) : (Instr.slice 9 (strV (hexT c.toNat)) (some (.int .i64 14)) none none).run Tryz.prog w = .ok (strV (twoD c)) w := by
  have h : (hexT c.toNat).length = 16 := hexF_len 16 _
  have hb := hexT_byte c.toNat c.toNat_lt
  obtain ⟨t, ht⟩ : ∃ t, t = hexT c.toNat := ⟨_, rfl⟩
  rw [← ht] at h hb ⊢
  have hz := str_size t
  simp [Instr.slice, run_underlying Tryz.underlying9, Instr.sliceBounds, Instr.sliceBound, asIntOf, go_sem, hz, h]
  rw [ba_cut]
  unfold twoD
  rw [← hb, List.take_of_length_le (by omega)]
theorem hhex_ok (l : List UInt8) (s : Value) (w : World) (hs : Sl byC w w.heap.size s l) (hl : l.length ≤ 100000) : Calls Tryz.prog 43 #[s] w (SPost w (hexB l)) := by
  obtain ⟨A, ca, rfl, h1, h2, h3⟩ := hs
  have H3 := Lib.hid h3
  clear h3 h2
  by_cases h0 : l = []
  · subst h0
    go_enter Tryz.func43, Tryz.ntmps43
    go_wp2_with fail
    go_ret
    exact ⟨rfl, Below.refl _ _⟩
  · have HP := Lib.hid (hexB_P h0)
    have hp : 0 < l.length := List.length_pos_iff.mpr h0
    have hz : ((l.length : Int) == 0) = false := by
      rw [beq_eq_false_iff_ne]; omega
    have hb1 := Bld.new w
    have hW1 := (Below.refl w.heap.size w).alloc (Nat.le_refl _) (.cells #[.pointer none, .slice none 0 0] 67)
    obtain ⟨w1, hst1⟩ : ∃ w1, w.alloc (.cells #[.pointer none, .slice none 0 0] 67) = w1 := ⟨_, rfl⟩
    rw [hst1] at hb1 hW1
    have HB1 := Lib.hid hb1
    have HW1 := Lib.hid hW1
    clear h0 hb1 hW1
    go_enter Tryz.func43, Tryz.ntmps43
    go_wp2_with fail
    go_loopw [11] (fun i wr => ∃ k : Nat, k ≤ l.length ∧ i = .int .i64 (k : Nat) ∧ Hid (Bld wr w.heap.size (hexP (l.take k))) ∧ Hid (Below w.heap.size w wr)) (fun i _ => (l.length - Go.RowKit.intOf i).toNat)
    case atStart => exact ⟨0, Nat.zero_le _, rfl, HB1, HW1⟩
    case round =>
      obtain ⟨k, hk, rfl, HB, HW⟩ := hrel
      by_cases hlt : k < l.length
      · obtain ⟨b, off, rfl, hb, hlay⟩ := H3.out (by omega)
        have x0 := ((hlay.of_heap (HW.out.block b hb)).elem byC_len k hlt).by
        rw [Nat.mul_one] at x0
        have HT := Lib.hid (List.take_succ_eq_append_getElem hlt)
        have hpl := hexP_len (l.take k)
        have hkl := List.length_take_le k l
        obtain ⟨c, hc⟩ : ∃ c, c = l[k] := ⟨_, rfl⟩
        rw [← hc] at x0 HT
        have hcl := c.toNat_lt
        have HX := Lib.hid (fun w => hex_ok c.toNat w (by omega))
        have HC := Lib.hid (fun w => hex_cut c w)
        obtain ⟨t, ht⟩ : ∃ t, t = hexT c.toNat := ⟨_, rfl⟩
        rw [← ht] at HX HC
        obtain ⟨p, hpp⟩ : ∃ p, p = hexP (l.take k) := ⟨_, rfl⟩
        rw [← hpp] at HB hpl
        have HPP := Lib.hid hpp
        have hpl2 : p.length ≤ 200000 := by omega
        clear hlay hc ht hpp hpl hkl
        go_wp2_with fail
        refine (HX.out _).mono ?_
        rintro e w2 ⟨rfl, hb2⟩
        have HB2 := Lib.hid (HB.out.below hb2)
        have HW2 := Lib.hid (HW.out.trans (hb2.mono HW.out.size))
        have hcut := HC.out
        clear hb2
        go_wp2_with fail
        refine (wstr_ok _ _ p (twoD c) HB2.out (by simp [twoD]; omega)).mono ?_
        rintro e w3 ⟨rfl, hb3, hw3⟩
        have HB3 := Lib.hid hb3
        have HW3 := Lib.hid (HW2.out.trans hw3)
        clear hb3 hw3 hcut
        go_wp2_with fail
        go_roundw
        case rel => exact ⟨k + 1, by omega, by go_num, Lib.hid (by rw [HT.out, hexP_snoc, ← HPP.out]; exact HB3.out), HW3⟩
        case measure => simp [Go.RowKit.intOf]; omega
      · obtain rfl : k = l.length := by omega
        rw [List.take_length] at HB
        go_wp2_with fail
        refine (bstr_ok _ _ _ HB.out).mono ?_
        rintro e w2 h
        have hh : e = .returned (strV (hexP l)) ∧ Below w.heap.size wr w2 := by
          exact ⟨h.1, h.2.2⟩
        obtain ⟨rfl, hb2⟩ := hh
        have HW2 := Lib.hid (HW.out.trans hb2)
        clear hb2 h
        go_wp2_with fail
        go_ret
        exact ⟨by rw [HP.out]; try rfl, HW2.out⟩
abbrev LB (w wx : World) (r : HRw) : Prop := HBx 62 w wx w.heap.size r
theorem LB.sl {w wx : World} {r : HRw} (h : LB w wx r) (hs : Sl byC w w.heap.size (.slice r.A r.x.bs.length r.cap) r.x.bs) : Sl byC wx wx.heap.size (.slice r.A r.x.bs.length r.cap) r.x.bs := (hs.below h.bel).more h.bel.size
theorem LB.to {w wx wy : World} {r : HRw} (h : LB w wx r) (hb : Below wx.heap.size wx wy) : LB w wy r := HBx.below h hb
theorem smallT_len (n : Int) : (smallT n).length ≤ 20 := txtF_len 19 _
theorem lineQ_len (q : Req) (h : encOk q = true) : (lineQ q).length ≤ 20000 := by
  have h1 := (enc_op h).2
  have h2 := line_few q 1600 (by omega) (by omega)
  have h3 := joinW_len 1600 (lineW q) h2.2
  have h4 := h2.1
  unfold lineQ
  have h5 : (lineW q).length * (1600 + 1) ≤ 12 * (1600 + 1) := Nat.mul_le_mul_right _ h4
  omega
theorem hline_1 (r : HRw) (w : World) (hk : r.x.kind = 1) (hs : Sl byC w w.heap.size (.slice r.A r.x.bs.length r.cap) r.x.bs) (hl : r.x.bs.length ≤ 500) : Calls Tryz.prog 24 #[.agg (hiA r)] w (SPost w (itT r.x)) := by
  have h1' : LB w _ r := HBx.new 62 w r
  obtain ⟨w1, hst1⟩ : ∃ w1, w.alloc (.cells (hiA r) 62) = w1 := ⟨_, rfl⟩
  rw [hst1] at h1'
  have f0 := h1'.kind
  have f1 := h1'.conn
  have f2 := h1'.bs
  rw [hk] at f0
  obtain ⟨a, ha⟩ : ∃ a, a = smallT r.x.conn := ⟨_, rfl⟩
  obtain ⟨h, hh⟩ : ∃ h, h = hexB r.x.bs := ⟨_, rfl⟩
  have la : a.length ≤ 20 := by rw [ha]; exact smallT_len _
  have lh : h.length ≤ 1001 := by rw [hh]; have := hexB_len r.x.bs; omega
  have HA := Lib.hid (fun w => hsmall_ok r.x.conn w)
  rw [← ha] at HA
  have HH := Lib.hid (fun wx (hx : LB w wx r) => hhex_ok r.x.bs _ wx (hx.sl hs) (by omega))
  rw [← hh] at HH
  obtain ⟨p1, g1⟩ : ∃ p, p = [102, 101, 101, 100, 32] ++ a := ⟨_, rfl⟩
  have e1 : ∀ w, (Op.stringOp .add ⟨#[102, 101, 101, 100, 32]⟩ ⟨a.toArray⟩).run Tryz.prog w = .ok (strV p1) w := fun w => by rw [g1]; exact str_add [102, 101, 101, 100, 32] a (by simp; omega) w
  obtain ⟨p2, g2⟩ : ∃ p, p = p1 ++ [32] := ⟨_, rfl⟩
  have e2 : ∀ w, (Op.stringOp .add ⟨p1.toArray⟩ ⟨#[32]⟩).run Tryz.prog w = .ok (strV p2) w := fun w => by rw [g2]; exact str_add p1 [32] (by simp [g1]; omega) w
  obtain ⟨p3, g3⟩ : ∃ p, p = p2 ++ h := ⟨_, rfl⟩
  have e3 : ∀ w, (Op.stringOp .add ⟨p2.toArray⟩ ⟨h.toArray⟩).run Tryz.prog w = .ok (strV p3) w := fun w => by rw [g3]; exact str_add p2 h (by simp [g1, g2]; omega) w
  have HT := Lib.hid (show itT r.x = p3 by unfold itT; rw [if_pos hk, g3, g2, g1, ha, hh]; simp [wFeed])
  have HSB := Lib.hid (fun wx (hx : LB w wx r) => (⟨hx.conn, hx.bs⟩ : wx.cell? ⟨w.heap.size, 1, none⟩ = some (.int .i64 r.x.conn) ∧ wx.cell? ⟨w.heap.size, 2, none⟩ = some (.slice r.A r.x.bs.length r.cap)))
  have h1d : LB w w1.drew r := h1'.drew
  clear g1 g2 g3 ha hh la lh hs hl hk
  go_enter Tryz.func24, Tryz.ntmps24
  go_wp2_with fail
  go_region_held3 (fun wx => wx.cell? ⟨w.heap.size, 1, none⟩ = some (.int .i64 r.x.conn) ∧ wx.cell? ⟨w.heap.size, 2, none⟩ = some (.slice r.A r.x.bs.length r.cap)) (first | go_keep | exact HSB.out _ (by assumption)) (first
    | ((with_reducible refine (HA.out _).mono ?_); rintro e wa ⟨rfl, hba⟩; have hxa := LB.to (r := r) (w := w) (by assumption) hba; clear hba)
    | ((with_reducible refine (HH.out _ (by assumption)).mono ?_); rintro e wb ⟨rfl, hbb⟩; have hxb := LB.to (r := r) (w := w) (by assumption) hbb; clear hbb))
  all_goals
    go_wp2_with fail
    go_ret
    exact ⟨by rw [HT.out]; try rfl, HBx.bel (T := 62) (g := w.heap.size) (r := r) (by assumption)⟩
theorem hline_2 (r : HRw) (w : World) (hk : r.x.kind = 2) (hd : r.x.fits) : Calls Tryz.prog 24 #[.agg (hiA r)] w (SPost w (itT r.x)) := by
  have h1' : LB w _ r := HBx.new 62 w r
  obtain ⟨w1, hst1⟩ : ∃ w1, w.alloc (.cells (hiA r) 62) = w1 := ⟨_, rfl⟩
  rw [hst1] at h1'
  have f0 := h1'.kind
  have f1 := h1'.conn
  have f3 := h1'.draw
  rw [hk] at f0
  obtain ⟨a, ha⟩ : ∃ a, a = smallT r.x.conn := ⟨_, rfl⟩
  obtain ⟨h, hh⟩ : ∃ h, h = hexT r.x.draw := ⟨_, rfl⟩
  have la : a.length ≤ 20 := by rw [ha]; exact smallT_len _
  have lh : h.length = 16 := by rw [hh]; exact hexF_len 16 _
  have HA := Lib.hid (fun w => hsmall_ok r.x.conn w)
  rw [← ha] at HA
  have HH := Lib.hid (fun w => hex_ok r.x.draw w hd)
  rw [← hh] at HH
  obtain ⟨p1, g1⟩ : ∃ p, p = [112, 105, 99, 107, 32] ++ a := ⟨_, rfl⟩
  have e1 : ∀ w, (Op.stringOp .add ⟨#[112, 105, 99, 107, 32]⟩ ⟨a.toArray⟩).run Tryz.prog w = .ok (strV p1) w := fun w => by rw [g1]; exact str_add [112, 105, 99, 107, 32] a (by simp; omega) w
  obtain ⟨p2, g2⟩ : ∃ p, p = p1 ++ [32] := ⟨_, rfl⟩
  have e2 : ∀ w, (Op.stringOp .add ⟨p1.toArray⟩ ⟨#[32]⟩).run Tryz.prog w = .ok (strV p2) w := fun w => by rw [g2]; exact str_add p1 [32] (by simp [g1]; omega) w
  obtain ⟨p3, g3⟩ : ∃ p, p = p2 ++ h := ⟨_, rfl⟩
  have e3 : ∀ w, (Op.stringOp .add ⟨p2.toArray⟩ ⟨h.toArray⟩).run Tryz.prog w = .ok (strV p3) w := fun w => by rw [g3]; exact str_add p2 h (by simp [g1, g2]; omega) w
  have HT := Lib.hid (show itT r.x = p3 by unfold itT; rw [if_neg (by rw [hk]; decide), if_pos hk, g3, g2, g1, ha, hh]; simp [wPick])
  have HSB := Lib.hid (fun wx (hx : LB w wx r) => (⟨hx.conn, hx.draw⟩ : wx.cell? ⟨w.heap.size, 1, none⟩ = some (.int .i64 r.x.conn) ∧ wx.cell? ⟨w.heap.size, 3, none⟩ = some (.int .u64 (r.x.draw : Nat))))
  have h1d : LB w w1.drew r := h1'.drew
  clear g1 g2 g3 ha hh la lh hd hk
  go_enter Tryz.func24, Tryz.ntmps24
  go_wp2_with fail
  go_region_held3 (fun wx => wx.cell? ⟨w.heap.size, 1, none⟩ = some (.int .i64 r.x.conn) ∧ wx.cell? ⟨w.heap.size, 3, none⟩ = some (.int .u64 (r.x.draw : Nat))) (first | go_keep | exact HSB.out _ (by assumption)) (first
    | ((with_reducible refine (HA.out _).mono ?_); rintro e wa ⟨rfl, hba⟩; have hxa := LB.to (r := r) (w := w) (by assumption) hba; clear hba)
    | ((with_reducible refine (HH.out _).mono ?_); rintro e wb ⟨rfl, hbb⟩; have hxb := LB.to (r := r) (w := w) (by assumption) hbb; clear hbb))
  all_goals
    go_wp2_with fail
    go_ret
    exact ⟨by rw [HT.out]; try rfl, HBx.bel (T := 62) (g := w.heap.size) (r := r) (by assumption)⟩
theorem hline_3 (r : HRw) (w : World) (hk : r.x.kind = 3) : Calls Tryz.prog 24 #[.agg (hiA r)] w (SPost w (itT r.x)) := by
  have h1' : LB w _ r := HBx.new 62 w r
  obtain ⟨w1, hst1⟩ : ∃ w1, w.alloc (.cells (hiA r) 62) = w1 := ⟨_, rfl⟩
  rw [hst1] at h1'
  have f0 := h1'.kind
  have f4 := h1'.n
  rw [hk] at f0
  obtain ⟨a, ha⟩ : ∃ a, a = smallT r.x.n := ⟨_, rfl⟩
  have la : a.length ≤ 20 := by rw [ha]; exact smallT_len _
  have HA := Lib.hid (fun w => hsmall_ok r.x.n w)
  rw [← ha] at HA
  obtain ⟨p1, g1⟩ : ∃ p, p = [116, 105, 99, 107, 32] ++ a := ⟨_, rfl⟩
  have e1 : ∀ w, (Op.stringOp .add ⟨#[116, 105, 99, 107, 32]⟩ ⟨a.toArray⟩).run Tryz.prog w = .ok (strV p1) w := fun w => by rw [g1]; exact str_add [116, 105, 99, 107, 32] a (by simp; omega) w
  have HT := Lib.hid (show itT r.x = p1 by unfold itT; rw [if_neg (by rw [hk]; decide), if_neg (by rw [hk]; decide), if_pos hk, g1, ha]; simp [wTick])
  have H1 := Lib.hid h1'
  clear g1 ha la hk h1'
  go_enter Tryz.func24, Tryz.ntmps24
  go_wp2_with fail
  refine (HA.out _).mono ?_
  rintro e w2 ⟨rfl, hb⟩
  have H2 := Lib.hid (H1.out.to hb)
  clear hb
  go_wp2_with fail
  go_ret
  exact ⟨by rw [HT.out]; try rfl, H2.out.bel⟩
theorem hline_4 (r : HRw) (w : World) (hk : r.x.kind = 4) (hq : r.x.q.fits) (he : encOk r.x.q = true) (hd : r.x.fits) : Calls Tryz.prog 24 #[.agg (hiA r)] w (SPost w (itT r.x)) := by
  have h1' : LB w _ r := HBx.new 62 w r
  obtain ⟨w1, hst1⟩ : ∃ w1, w.alloc (.cells (hiA r) 62) = w1 := ⟨_, rfl⟩
  rw [hst1] at h1'
  have f0 := h1'.kind
  rw [hk] at f0
  have HQ1 := Lib.hid h1'.q
  obtain ⟨a, ha⟩ : ∃ a, a = smallT r.x.conn := ⟨_, rfl⟩
  obtain ⟨h, hh⟩ : ∃ h, h = hexT r.x.draw := ⟨_, rfl⟩
  obtain ⟨l, hl⟩ : ∃ l, l = lineT r.x.q := ⟨_, rfl⟩
  have la : a.length ≤ 20 := by rw [ha]; exact smallT_len _
  have lh : h.length = 16 := by rw [hh]; exact hexF_len 16 _
  have ll : l.length ≤ 20000 := by rw [hl]; unfold lineT; rw [if_pos he]; exact lineQ_len _ he
  have HA := Lib.hid (fun w => hsmall_ok r.x.conn w)
  rw [← ha] at HA
  have HH := Lib.hid (fun w => hex_ok r.x.draw w hd)
  rw [← hh] at HH
  have HL := Lib.hid (fun w => Line_ok r.x.q w hq)
  unfold LPost at HL
  rw [← hl] at HL
  obtain ⟨p1, g1⟩ : ∃ p, p = [97, 115, 107, 32] ++ a := ⟨_, rfl⟩
  have e1 : ∀ w, (Op.stringOp .add ⟨#[97, 115, 107, 32]⟩ ⟨a.toArray⟩).run Tryz.prog w = .ok (strV p1) w := fun w => by rw [g1]; exact str_add [97, 115, 107, 32] a (by simp; omega) w
  obtain ⟨p2, g2⟩ : ∃ p, p = p1 ++ [32] := ⟨_, rfl⟩
  have e2 : ∀ w, (Op.stringOp .add ⟨p1.toArray⟩ ⟨#[32]⟩).run Tryz.prog w = .ok (strV p2) w := fun w => by rw [g2]; exact str_add p1 [32] (by simp [g1]; omega) w
  obtain ⟨p3, g3⟩ : ∃ p, p = p2 ++ h := ⟨_, rfl⟩
  have e3 : ∀ w, (Op.stringOp .add ⟨p2.toArray⟩ ⟨h.toArray⟩).run Tryz.prog w = .ok (strV p3) w := fun w => by rw [g3]; exact str_add p2 h (by simp [g1, g2]; omega) w
  obtain ⟨p4, g4⟩ : ∃ p, p = p3 ++ [32] := ⟨_, rfl⟩
  have e4 : ∀ w, (Op.stringOp .add ⟨p3.toArray⟩ ⟨#[32]⟩).run Tryz.prog w = .ok (strV p4) w := fun w => by rw [g4]; exact str_add p3 [32] (by simp [g1, g2, g3]; omega) w
  obtain ⟨p5, g5⟩ : ∃ p, p = p4 ++ l := ⟨_, rfl⟩
  have e5 : ∀ w, (Op.stringOp .add ⟨p4.toArray⟩ ⟨l.toArray⟩).run Tryz.prog w = .ok (strV p5) w := fun w => by rw [g5]; exact str_add p4 l (by simp [g1, g2, g3, g4]; omega) w
  have HT := Lib.hid (show itT r.x = p5 by unfold itT; rw [if_neg (by rw [hk]; decide), if_neg (by rw [hk]; decide), if_neg (by rw [hk]; decide), g5, g4, g3, g2, g1, ha, hh, hl]; simp [wAsk])
  have HSB := Lib.hid (fun wx (hx : LB w wx r) => (⟨hx.conn, hx.draw⟩ : wx.cell? ⟨w.heap.size, 1, none⟩ = some (.int .i64 r.x.conn) ∧ wx.cell? ⟨w.heap.size, 3, none⟩ = some (.int .u64 (r.x.draw : Nat))))
  have H1 := Lib.hid h1'
  clear g1 g2 g3 g4 g5 ha hh hl la lh ll hd hk h1' hq he
  go_enter Tryz.func24, Tryz.ntmps24
  go_wp2_with (refine load_arr rfl 60 (.tmp 36) rfl w.heap.size 5 rfl (rqC r.x.q) _ HQ1.out Tryz.underlying60 rfl (rq_size _) ?_)
  refine (HL.out _).mono ?_
  rintro e w2 ⟨rfl, hb⟩
  have h2' : LB w w2 r := H1.out.to hb
  have f1 := h2'.conn
  have f3 := h2'.draw
  have h2d : LB w w2.drew r := h2'.drew
  clear hb
  go_wp2_with fail
  go_region_held3 (fun wx => wx.cell? ⟨w.heap.size, 1, none⟩ = some (.int .i64 r.x.conn) ∧ wx.cell? ⟨w.heap.size, 3, none⟩ = some (.int .u64 (r.x.draw : Nat))) (first | go_keep | exact HSB.out _ (by assumption)) (first
    | ((with_reducible refine (HA.out _).mono ?_); rintro e wa ⟨rfl, hba⟩; have hxa := LB.to (r := r) (w := w) (by assumption) hba; clear hba)
    | ((with_reducible refine (HH.out _).mono ?_); rintro e wb ⟨rfl, hbb⟩; have hxb := LB.to (r := r) (w := w) (by assumption) hbb; clear hbb))
  all_goals
    go_wp2_with fail
    go_ret
    exact ⟨by rw [HT.out]; try rfl, HBx.bel (T := 62) (g := w.heap.size) (r := r) (by assumption)⟩
theorem hline_ok2 (r : HRw) (w : World) (hsl : Sl byC w w.heap.size (.slice r.A r.x.bs.length r.cap) r.x.bs) (hq : r.x.q.fits) (hdr : r.x.fits) (hi : itOk r.x = true) : Calls Tryz.prog 24 #[.agg (hiA r)] w (SPost w (itT r.x)) := by
  unfold itOk at hi
  by_cases h1 : r.x.kind = 1
  · rw [if_pos h1] at hi
    simp only [Bool.and_eq_true, decide_eq_true_eq] at hi
    exact hline_1 r w h1 hsl hi.2.1
  · rw [if_neg h1] at hi
    by_cases h2 : r.x.kind = 2
    · exact hline_2 r w h2 hdr
    · rw [if_neg h2] at hi
      by_cases h3 : r.x.kind = 3
      · exact hline_3 r w h3
      · rw [if_neg h3] at hi
        by_cases h4 : r.x.kind = 4
        · rw [if_pos h4] at hi
          simp only [Bool.and_eq_true, decide_eq_true_eq] at hi
          exact hline_4 r w h4 hq hi.2.2.2 hdr
        · rw [if_neg h4] at hi
          cases hi
theorem hline_ok (r : HRw) (w : World) (h : HOk w r) (hi : itOk r.x = true) : Calls Tryz.prog 24 #[.agg (hiA r)] w (SPost w (itT r.x)) := hline_ok2 r w h.sl h.q h.dr hi
theorem itT_max (x : HIt) (h : itOk x = true) : (itT x).length ≤ 30000 := by
  have t1 := smallT_len x.conn
  have t2 := smallT_len x.n
  have t3 : (hexT x.draw).length = 16 := hexF_len 16 _
  have t4 := hexB_len x.bs
  have w1 : wFeed.length = 4 := rfl
  have w2 : wPick.length = 4 := rfl
  have w3 : wTick.length = 4 := rfl
  have w4 : wAsk.length = 3 := rfl
  unfold itOk at h
  unfold itT
  split
  · rename_i hk
    rw [if_pos hk] at h
    simp only [Bool.and_eq_true, decide_eq_true_eq] at h
    simp only [List.length_append, List.length_cons]
    omega
  · rename_i hk
    rw [if_neg hk] at h
    split
    · simp only [List.length_append, List.length_cons]; omega
    · rename_i hk2
      rw [if_neg hk2] at h
      split
      · simp only [List.length_append, List.length_cons]; omega
      · rename_i hk3
        rw [if_neg hk3] at h
        split at h
        · simp only [Bool.and_eq_true, decide_eq_true_eq] at h
          have h5 : lineT x.q = lineQ x.q := by unfold lineT; rw [if_pos h.2.2.2]
          have := lineQ_len x.q h.2.2.2
          rw [h5]
          simp only [List.length_append, List.length_cons]
          omega
        · cases h
end Go.Proofs.YtldjgpnbkbmgoaaGreatDoor

