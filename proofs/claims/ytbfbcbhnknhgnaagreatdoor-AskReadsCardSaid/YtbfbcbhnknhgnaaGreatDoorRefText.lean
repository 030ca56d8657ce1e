/-
  The reference's numbers' texts. Conditions: none.
-/
import Derived.Test.YtbfbcbhnknhgnaaGreatDoorWriter
import Derived.Deep.QuietTactic
import Derived.BigQuiet
namespace Go.Proofs.YtbfbcbhnknhgnaaGreatDoor
open Go.RowKit

def QuietPost (w : World) (l : List UInt8) (e : Ending) (w' : World) : Prop := e = .returned (strV l) ∧ ∃ m, w' = w.drewN m

theorem dig_ext (n : Nat) : Value.string ((ByteArray.mk #[48, 49, 50, 51, 52, 53, 54, 55, 56, 57]).extract (n % 10) (n % 10 + 1)) = strV [dg n] := by
  have h : dg n = UInt8.ofNat (48 + n % 10) := rfl
  rw [h]
  obtain ⟨k, hk⟩ : ∃ k, n % 10 = k := ⟨_, rfl⟩
  rw [hk]
  have : k = 0 ∨ k = 1 ∨ k = 2 ∨ k = 3 ∨ k = 4 ∨ k = 5 ∨ k = 6 ∨ k = 7 ∨ k = 8 ∨ k = 9 := by omega
  rcases this with rfl | rfl | rfl | rfl | rfl | rfl | rfl | rfl | rfl | rfl <;> rfl
theorem str_add (a b : List UInt8) (h : a.length + b.length ≤ 9223372036854775807) (w : World) : (Op.stringOp .add ⟨a.toArray⟩ ⟨b.toArray⟩).run Tryz.prog w = .ok (strV (a ++ b)) w := by
  rw [run_string_add_sum w _ _ (by rw [str_size, str_size]; exact h), ba_add]
set_option maxRecDepth 100000 in
theorem dig_cut (n : Nat) (w : World) : (Instr.slice 9 (.string ⟨#[48, 49, 50, 51, 52, 53, 54, 55, 56, 57]⟩) (some (.int .i64 ((n : Int) % 10))) (some (.int .i64 ((n : Int) % 10 + 1))) none).run Tryz.prog w = .ok (strV [dg n]) w := by
  have h : dg n = UInt8.ofNat (48 + n % 10) := rfl
  rw [h]
  have e : (n : Int) % 10 = ((n % 10 : Nat) : Int) := by omega
  rw [e]
  obtain ⟨k, hk⟩ : ∃ k, n % 10 = k := ⟨_, rfl⟩
  rw [hk]
  have : k = 0 ∨ k = 1 ∨ k = 2 ∨ k = 3 ∨ k = 4 ∨ k = 5 ∨ k = 6 ∨ k = 7 ∨ k = 8 ∨ k = 9 := by omega
  rcases this with rfl | rfl | rfl | rfl | rfl | rfl | rfl | rfl | rfl | rfl <;> rfl
theorem ret_v {a b : Value} (h : a = b) : Ending.returned a = .returned b := by rw [h]

set_option maxRecDepth 100000 in
theorem rtext_go : ∀ (k n : Nat) (w : World), k ≤ 1000 → n < 10 ^ (k + 1) → n < 18446744073709551616 → Calls Tryz.prog 25 #[.int .u64 (n : Nat)] w (QuietPost w (txtF k n)) := by
  intro k
  induction k with
  | zero =>
    intro n w _ h h2
    have h10 : (n : Int) < 10 := by simp at h; omega
    have hd := Lib.hid (dig_ext n)
    clear h
    go_enter Tryz.func25, Tryz.ntmps25
    go_wp2
    go_ret
    exact ⟨ret_v hd.out, 0, rfl⟩
  | succ k ih =>
    intro n w hk h h2
    by_cases h10 : n < 10
    · have e : txtF (k + 1) n = [dg n] := by unfold txtF; rw [if_pos h10]
      rw [e]
      have h11 : (n : Int) < 10 := by omega
      have hd := Lib.hid (dig_ext n)
      clear e h h10 ih hk
      go_enter Tryz.func25, Tryz.ntmps25
      go_wp2
      go_ret
      exact ⟨ret_v hd.out, 0, rfl⟩
    · have e : txtF (k + 1) n = txtF k (n / 10) ++ [dg n] := by
        show (if n < 10 then [dg n] else txtF k (n / 10) ++ [dg n]) = _
        rw [if_neg h10]
      have hxx : (txtF k (n / 10)).length ≤ 9223372036854775000 := by have := txtF_len k (n / 10); omega
      have hih : ∀ w, Calls Tryz.prog 25 #[.int .u64 ((n : Int) / 10)] w fun e w' => e = .returned (strV (txtF k (n / 10))) ∧ ∃ m, w' = w.drewN m := fun w => by
        have := ih (n / 10) w (by omega) (by rw [Nat.pow_succ] at h; omega) (by omega)
        rw [Int.natCast_ediv] at this
        exact this
      rw [e]
      have h11 : ¬ (n : Int) < 10 := by omega
      have HI := Lib.hid hih
      have hw1 : IntKind.i64.wrap ((n : Int) % 10 + 1) = (n : Int) % 10 + 1 := by rw [IntKind.wrap_i64]; omega
      have hw2 : IntKind.u64.wrap ((n : Int) / 10) = (n : Int) / 10 := by rw [IntKind.wrap_u64]; omega
      have hd := fun w => dig_cut n w
      obtain ⟨x, hx⟩ : ∃ x, x = txtF k (n / 10) := ⟨_, rfl⟩
      obtain ⟨d, hdd⟩ : ∃ d, d = [dg n] := ⟨_, rfl⟩
      have hxl : x.length ≤ 9223372036854775000 := by rw [hx]; exact hxx
      rw [← hx] at HI
      rw [← hdd] at hd
      rw [← hx, ← hdd]
      have hadd := fun w => str_add x d (by rw [hdd]; simp; omega) w
      clear e h h10 ih hih hk hxl hxx hx hdd
      go_enter Tryz.func25, Tryz.ntmps25
      go_wp2
      go_quiet ((go_at_call 25; with_reducible exact Calls.quiet_of (HI.out _)))
      go_wp2
      go_ret
      exact ⟨rfl, _, rfl⟩
theorem rtext_ok (n : Nat) (w : World) (h : n < 18446744073709551616) : Calls Tryz.prog 25 #[.int .u64 (n : Nat)] w (QuietPost w (txt n)) :=
  rtext_go 19 n w (by omega) (Nat.lt_trans h (by decide)) h

theorem hex_ext (m : Nat) : (ByteArray.mk #[48, 49, 50, 51, 52, 53, 54, 55, 56, 57, 97, 98, 99, 100, 101, 102]).extract (m % 16) (m % 16 + 1) = ⟨[hd (m % 16)].toArray⟩ := by
  obtain ⟨k, hk⟩ : ∃ k, m % 16 = k := ⟨_, rfl⟩
  rw [hk]
  have : k = 0 ∨ k = 1 ∨ k = 2 ∨ k = 3 ∨ k = 4 ∨ k = 5 ∨ k = 6 ∨ k = 7 ∨ k = 8 ∨ k = 9 ∨ k = 10 ∨ k = 11 ∨ k = 12 ∨ k = 13 ∨ k = 14 ∨ k = 15 := by omega
  rcases this with rfl | rfl | rfl | rfl | rfl | rfl | rfl | rfl | rfl | rfl | rfl | rfl | rfl | rfl | rfl | rfl <;> rfl
def SamePost (w : World) (l : List UInt8) (e : Ending) (w' : World) : Prop := e = .returned (strV l) ∧ w' = w
set_option maxRecDepth 100000 in
theorem rhexT_ok (n : Nat) (w : World) (hn : n < 18446744073709551616) : Calls Tryz.prog 26 #[.int .u64 (n : Nat)] w (SamePost w (hexT n)) := by
  have H := Lib.hid hn
  clear hn
  go_enter Tryz.func26, Tryz.ntmps26
  go_wp2
  go_loop [0, 4, 5] (fun nv sv iv => ∃ i m, i ≤ 16 ∧ iv = .int .i64 (i : Nat) ∧ nv = .int .u64 (m : Nat) ∧ m = n / 16 ^ i ∧ sv = strV (hexF i n)) (fun _ _ iv => (16 - intOf iv).toNat)
  case atStart => exact ⟨0, n, by omega, rfl, rfl, by simp, rfl⟩
  case round =>
    obtain ⟨i, m, hi, rfl, rfl, hm, rfl⟩ := hrel
    by_cases hlt : i < 16
    · have hi16 : (i : Int) < 16 := by omega
      have hm64 : m < 18446744073709551616 := by rw [hm]; exact Nat.lt_of_le_of_lt (Nat.div_le_self _ _) H.out
      have hx := hex_ext m
      obtain ⟨d, hdd⟩ : ∃ d, d = [hd (m % 16)] := ⟨_, rfl⟩
      rw [← hdd] at hx
      have hs : hexF (i + 1) n = d ++ hexF i n := by rw [hexF_front, hdd, hm]; rfl
      have HS := Lib.hid hs
      have hl : (hexF i n).length = i := hexF_len i n
      obtain ⟨s, hss⟩ : ∃ s, s = hexF i n := ⟨_, rfl⟩
      rw [← hss] at HS hl ⊢
      have hadd := fun w => str_add d s (by rw [hdd, hl]; simp; omega) w
      have HM := Lib.hid hm
      clear hdd hss hs hm hl
      go_wp2
      exact ⟨⟨i + 1, m / 16, by omega, by go_num, by rw [Int.natCast_ediv]; rfl, by rw [HM.out, Nat.div_div_eq_div_mul, Nat.pow_succ], by rw [HS.out]⟩, by simp [intOf]; omega⟩
    · obtain rfl : i = 16 := by omega
      go_wp2
      go_ret
      exact ⟨rfl, rfl⟩

theorem rtext_eq (x : Int) (m : Nat) (hx : x = (m : Int)) (hm : m < 18446744073709551616) (w : World) : Calls Tryz.prog 25 #[.int .u64 x] w (QuietPost w (txt m)) := by
  subst hx
  exact rtext_ok m w hm
theorem rhexT_eq (x : Int) (m : Nat) (hx : x = (m : Int)) (hm : m < 18446744073709551616) (w : World) : Calls Tryz.prog 26 #[.int .u64 x] w (SamePost w (hexT m)) := by
  subst hx
  exact rhexT_ok m w hm

/-- Numbers' words, a blank ahead of each. -/
def wordsT (ns : List Int) : List UInt8 := ns.flatMap fun n => 32 :: txt (u64n n)
theorem wordsT_len (ns : List Int) : (wordsT ns).length ≤ 21 * ns.length := by
  unfold wordsT
  induction ns with
  | nil => simp
  | cons a ns ih =>
    have : (txt (u64n a)).length ≤ 20 := txtF_len 19 (u64n a)
    simp only [List.flatMap_cons, List.length_append, List.length_cons]
    omega
set_option maxRecDepth 100000 in
set_option maxHeartbeats 1000000 in
theorem rwords_ok (ns : List Int) (g : Nat) (w : World) (hs : Lay w g 0 (ns.flatMap nmC)) (hn : ns.length ≤ 1000) : Calls Tryz.prog 28 #[.slice (some ⟨g, 0, none⟩) ns.length ns.length] w (QuietPost w (wordsT ns)) := by
  have HL := Lib.hid hs
  clear hs
  go_enter Tryz.func28, Tryz.ntmps28
  go_wp2
  go_loopw [3, 4] (fun sv iv wr => ∃ k, k ≤ ns.length ∧ iv = .int .i64 (k : Nat) ∧ sv = strV (wordsT (ns.take k)) ∧ ∃ m, wr = w.drewN m) (fun _ iv _ => (ns.length - intOf iv).toNat)
  case atStart => exact ⟨0, Nat.zero_le _, rfl, rfl, 0, rfl⟩
  case round =>
    obtain ⟨k, hk, rfl, rfl, m, hm⟩ := hrel
    by_cases hlt : k < ns.length
    · obtain ⟨n, hnn⟩ : ∃ n, n = ns[k] := ⟨_, rfl⟩
      have x0 := (HL.out.elem nmC_len k hlt).nm
      rw [Nat.mul_one, Nat.zero_add, ← hnn] at x0
      have x1 : wr.cell? ⟨g, k, none⟩ = some (.int .i64 n) := by rw [hm]; exact x0
      have hst : wordsT (ns.take (k + 1)) = wordsT (ns.take k) ++ [32] ++ txt (u64n n) := by
        rw [List.take_succ_eq_append_getElem hlt, ← hnn]
        simp [wordsT]
      have HS := Lib.hid hst
      have hl1 := wordsT_len (ns.take k)
      have hl2 := List.length_take_le k ns
      have hl3 := txtF_len 19 (u64n n)
      obtain ⟨s, hss⟩ : ∃ s, s = wordsT (ns.take k) := ⟨_, rfl⟩
      rw [← hss] at HS hl1 ⊢
      have hadd1 := fun w => str_add s [32] (by simp; omega) w
      obtain ⟨t, ht⟩ : ∃ t, t = txt (u64n n) := ⟨_, rfl⟩
      have hl4 : t.length ≤ 20 := by rw [ht]; exact hl3
      have hadd2 := fun w => str_add (s ++ [32]) t (by simp; omega) w
      have HC := Lib.hid (fun w => rtext_eq (IntKind.u64.wrap n) (u64n n) (u64n_wrap n) (u64n_lt n) w)
      rw [← ht] at HC HS
      have hlti : (k : Int) < (ns.length : Int) := by omega
      have HM := Lib.hid hm
      clear x0 hst hl1 hl2 hl3 hl4 hss ht hm hnn
      go_wp2_with fail
      refine (HC.out _).mono ?_
      rintro e w' ⟨rfl, m2, hw'⟩
      have HM2 := Lib.hid (show w' = w.drewN (m + m2) by rw [hw', HM.out, World.drewN_drewN])
      clear hw'
      go_wp2
      go_roundw
      case rel => exact ⟨k + 1, by omega, by go_num, by rw [HS.out]; first | done | simp, _, HM2.out⟩
      case measure => simp [intOf]; omega
    · obtain rfl : k = ns.length := by omega
      rw [List.take_length]
      go_wp2
      go_ret
      first | exact ⟨rfl, _, hm⟩ | exact ⟨rfl, _, rfl⟩

set_option maxRecDepth 100000 in
set_option maxHeartbeats 1000000 in
theorem rquoted_ok (l : List UInt8) (w : World) (hl : l.length ≤ 35184372088832) : Calls Tryz.prog 29 #[strV l] w (SamePost w (quo l)) := by
  by_cases h0 : l = []
  · subst h0
    go_enter Tryz.func29, Tryz.ntmps29
    go_wp2
    go_ret
    exact ⟨rfl, rfl⟩
  · have he : l.isEmpty = false := by simpa using h0
    have hq : quo l = l.flatMap qb := by unfold quo; rw [if_neg h0]
    have HQ := Lib.hid hq
    have e : ∀ m : List UInt8, (m.flatMap qb).length ≤ 3 * m.length := fun m => by
      induction m with
      | nil => simp
      | cons a m ih =>
        have := (qb_len a).2
        simp only [List.flatMap_cons, List.length_append, List.length_cons]
        omega
    have HE := Lib.hid e
    clear hq h0 e
    go_enter Tryz.func29, Tryz.ntmps29
    go_wp2
    go_loop [3, 4] (fun sv iv => ∃ k, k ≤ l.length ∧ iv = .int .i64 (k : Nat) ∧ sv = strV ((l.take k).flatMap qb)) (fun _ iv => (l.length - intOf iv).toNat)
    case atStart => exact ⟨0, Nat.zero_le _, rfl, rfl⟩
    case round =>
      obtain ⟨k, hk, rfl, rfl⟩ := hrel
      have hfl := HE.out (l.take k)
      have hfl2 := List.length_take_le k l
      by_cases hlt : k < l.length
      · obtain ⟨c, hc⟩ : ∃ c, c = l[k] := ⟨_, rfl⟩
        have hyk : ∀ w, (Instr.index 9 (strV l) (.int .i64 (k : Int))).run Tryz.prog w = .ok (.int .u8 (c.toNat : Int)) w := fun w => by rw [hc]; exact str_ix hlt w
        have hst : (l.take (k + 1)).flatMap qb = (l.take k).flatMap qb ++ qb c := by rw [List.take_succ_eq_append_getElem hlt, List.flatMap_append, ← hc]; simp
        have hcut : (ByteArray.mk l.toArray).extract k (k + 1) = ⟨[c].toArray⟩ := by
          rw [ba_cut, List.drop_take, show k + 1 - k = 1 by omega, List.drop_eq_getElem_cons hlt, ← hc]
          rfl
        have HS := Lib.hid hst
        obtain ⟨s, hss⟩ : ∃ s, s = (l.take k).flatMap qb := ⟨_, rfl⟩
        rw [← hss] at HS hfl ⊢
        have hlti : (k : Int) < (l.length : Int) := by omega
        have hc256 : c.toNat < 256 := c.toNat_lt
        clear hc hst hss
        cases hp : plainB c
        · have hqb : qb c = [92] ++ [hd (c.toNat / 16), hd (c.toNat % 16)] := by unfold qb; rw [if_neg (by simp [hp])]; rfl
          have HQB := Lib.hid hqb
          have h14 := hexT_byte c.toNat c.toNat_lt
          have hcut2 : (ByteArray.mk (hexT c.toNat).toArray).extract 14 16 = ⟨[hd (c.toNat / 16), hd (c.toNat % 16)].toArray⟩ := by
            rw [ba_cut, List.take_of_length_le (by rw [show (hexT c.toNat).length = 16 from hexF_len 16 _]; decide), h14]
          have hadd1 := fun w => str_add s [92] (by simp; omega) w
          obtain ⟨t, ht⟩ : ∃ t, t = [hd (c.toNat / 16), hd (c.toNat % 16)] := ⟨_, rfl⟩
          rw [← ht] at HQB hcut2
          have hadd2 := fun w => str_add (s ++ [92]) t (by rw [ht]; simp; omega) w
          have hcase : ((c.toNat : Int) < 33) ∨ (33 ≤ (c.toNat : Int) ∧ 126 < (c.toNat : Int)) ∨ (33 ≤ (c.toNat : Int) ∧ (c.toNat : Int) ≤ 126 ∧ ((c.toNat : Int) != 92) = false) ∨ (33 ≤ (c.toNat : Int) ∧ (c.toNat : Int) ≤ 126 ∧ ((c.toNat : Int) != 92) = true ∧ ((c.toNat : Int) != 45) = false) := by
            unfold plainB at hp
            simp only [Bool.and_eq_false_iff, decide_eq_false_iff_not, bne_iff_ne, bne_eq_false_iff_eq] at hp ⊢
            omega
          have HH := Lib.hid (fun w => rhexT_eq (c.toNat : Int) c.toNat rfl (by omega) w)
          obtain ⟨x, hx⟩ : ∃ x, x = hexT c.toNat := ⟨_, rfl⟩
          have hxl : x.length = 16 := by rw [hx]; exact hexF_len 16 _
          rw [← hx] at HH hcut2
          have hxs : (ByteArray.mk x.toArray).size = 16 := by rw [str_size, hxl]
          clear hqb ht h14 hp hx
          rcases hcase with k1 | ⟨k1, k2⟩ | ⟨k1, k2, k3⟩ | ⟨k1, k2, k3, k4⟩
          all_goals
            go_wp2_with fail
            refine (HH.out _).mono ?_
            rintro e w' ⟨rfl, hw'⟩
            rw [hw']
            clear hw' w'
            go_wp2
            go_round
            case rel => exact ⟨k + 1, by omega, by go_num, by rw [HS.out, HQB.out]; first | done | simp⟩
            case measure => simp [intOf]; omega
        · have hqb : qb c = [c] := by unfold qb; rw [if_pos hp]
          have HQB := Lib.hid hqb
          have hk : 33 ≤ (c.toNat : Int) ∧ (c.toNat : Int) ≤ 126 ∧ ((c.toNat : Int) != 92) = true ∧ ((c.toNat : Int) != 45) = true := by
            unfold plainB at hp
            simp only [Bool.and_eq_true, decide_eq_true_eq, bne_iff_ne] at hp ⊢
            omega
          obtain ⟨k1, k2, k3, k4⟩ := hk
          obtain ⟨t, ht⟩ : ∃ t, t = [c] := ⟨_, rfl⟩
          rw [← ht] at HQB hcut
          have hadd := fun w => str_add s t (by rw [ht]; simp; omega) w
          clear hqb hp ht
          go_wp2
          exact ⟨⟨k + 1, by omega, by go_num, by rw [HS.out, HQB.out]⟩, by simp [intOf]; omega⟩
      · obtain rfl : k = l.length := by omega
        rw [List.take_length]
        go_wp2
        go_ret
        rw [HQ.out]
        exact ⟨rfl, rfl⟩
end Go.Proofs.YtbfbcbhnknhgnaaGreatDoor
