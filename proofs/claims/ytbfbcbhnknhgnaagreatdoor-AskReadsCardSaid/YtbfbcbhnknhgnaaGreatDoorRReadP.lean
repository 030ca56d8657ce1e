/-
  The reference's num.Parse, hex and value. Conditions: as each states.
  The reference's value, hex, Split and Unquoted. Conditions: as each states.
  The reference's Unquoted. Conditions: the word is at most 100000 bytes long.
  What the reference's Read makes of a line. No program here. Conditions: none.
-/
import Derived.Test.YtbfbcbhnknhgnaaGreatDoorRefText
import Derived.Test.YtbfbcbhnknhgnaaGreatDoorQuote
import Derived.Test.YtbfbcbhnknhgnaaGreatDoorRefC
import Derived.Test.YtbfbcbhnknhgnaaGreatDoorLong
import Derived.Test.YtbfbcbhnknhgnaaGreatDoorWriter
import Derived.Test.YtbfbcbhnknhgnaaGreatDoorRefLine
import Derived.Test.YtbfbcbhnknhgnaaGreatDoorReadLaw
import Derived.Test.YtbfbcbhnknhgnaaGreatDoorRb
import Derived.Deep.RegionLaw
import Derived.Deep.RegionHeld3
namespace Go.Proofs.YtbfbcbhnknhgnaaGreatDoor
open Go.RowKit

def mostL : List UInt8 := [49, 56, 52, 52, 54, 55, 52, 52, 48, 55, 51, 55, 48, 57, 53, 53, 49, 54, 49, 53]
def gtL (a b : List UInt8) : Bool := !(Op.bytesLess a b || a == b)
@[go_sem high] theorem gtr_most (t : TypeId) (l : List UInt8) : binOp .gtr t (.string ⟨l.toArray⟩) (.string ⟨#[49, 56, 52, 52, 54, 55, 52, 52, 48, 55, 51, 55, 48, 57, 53, 53, 49, 54, 49, 53]⟩) = pure (.bool (gtL l mostL)) := by
  simp [binOp, Op.stringOp, ByteArray.toList_eq, gtL, mostL]
/-- A text's number, digit by digit; none: there is a byte that is no digit. -/
def rfF : List UInt8 → Nat → Option Nat
  | [], n => some n
  | c :: r, n => if 48 ≤ c.toNat ∧ c.toNat ≤ 57 then rfF r ((10 * n + (c.toNat - 48)) % 18446744073709551616) else none
theorem rfF_cons (c : UInt8) (r : List UInt8) (n : Nat) : rfF (c :: r) n = if 48 ≤ c.toNat ∧ c.toNat ≤ 57 then rfF r ((10 * n + (c.toNat - 48)) % 18446744073709551616) else none := rfl
def badN (l : List UInt8) : Prop := l = [] ∨ 20 < l.length ∨ (1 < l.length ∧ l.head? = some 48) ∨ (l.length = 20 ∧ gtL l mostL = true)
instance (l : List UInt8) : Decidable (badN l) := by unfold badN; exact inferInstance
def rpar (l : List UInt8) : Nat × Int := if badN l then (0, 10) else res 10 (rfF l 0)

theorem rfF_par : ∀ (l : List UInt8) (n m : Nat), n < 18446744073709551616 → parF l n = some m → rfF l n = some m
  | [], n, m, _, h => h
  | c :: r, n, m, hn, h => by
    rw [parF_cons] at h
    rw [rfF_cons]
    split at h
    · rename_i hc
      rw [if_pos ⟨hc.1, hc.2.1⟩, Nat.mod_eq_of_lt hc.2.2]
      exact rfF_par r _ m hc.2.2 h
    · cases h
def valL : List UInt8 → Nat
  | [] => 0
  | c :: r => (c.toNat - 48) * 10 ^ r.length + valL r
theorem parF_val : ∀ (l : List UInt8) (n m : Nat), parF l n = some m → (∀ c ∈ l, 48 ≤ c.toNat ∧ c.toNat ≤ 57) ∧ m = n * 10 ^ l.length + valL l
  | [], n, m, h => by
    simp only [parF, Option.some.injEq] at h
    simp [valL, h]
  | c :: r, n, m, h => by
    rw [parF_cons] at h
    split at h
    · rename_i hc
      obtain ⟨h1, h2⟩ := parF_val r _ m h
      refine ⟨fun x hx => ?_, ?_⟩
      · rcases List.mem_cons.1 hx with rfl | hx
        · exact ⟨hc.1, hc.2.1⟩
        · exact h1 x hx
      · rw [h2, valL, List.length_cons, Nat.pow_succ, Nat.add_mul]
        have : 10 * n * 10 ^ r.length = n * (10 ^ r.length * 10) := by
          rw [Nat.mul_comm 10 n, Nat.mul_assoc, Nat.mul_comm 10]
        omega
    · cases h
theorem valL_lt : ∀ (l : List UInt8), (∀ c ∈ l, 48 ≤ c.toNat ∧ c.toNat ≤ 57) → valL l < 10 ^ l.length
  | [], _ => by simp [valL]
  | c :: r, h => by
    have h1 := valL_lt r fun x hx => h x (List.mem_cons_of_mem _ hx)
    have h2 := h c (List.mem_cons_self ..)
    rw [valL, List.length_cons, Nat.pow_succ]
    have : (c.toNat - 48) * 10 ^ r.length ≤ 9 * 10 ^ r.length := Nat.mul_le_mul_right _ (by omega)
    omega
/-- Of two rows of digits of the same length the greater one is the greater number. -/
theorem gt_val : ∀ (a b : List UInt8), a.length = b.length → (∀ c ∈ a, 48 ≤ c.toNat ∧ c.toNat ≤ 57) → (∀ c ∈ b, 48 ≤ c.toNat ∧ c.toNat ≤ 57) → gtL a b = true → valL b < valL a
  | [], [], _, _, _, h => by simp [gtL] at h
  | [], _ :: _, h, _, _, _ => by simp at h
  | _ :: _, [], h, _, _, _ => by simp at h
  | x :: a, y :: b, hl, ha, hb, h => by
    have hl' : a.length = b.length := by simpa using hl
    have ha' : ∀ c ∈ a, 48 ≤ c.toNat ∧ c.toNat ≤ 57 := fun c hc => ha c (List.mem_cons_of_mem _ hc)
    have hb' : ∀ c ∈ b, 48 ≤ c.toNat ∧ c.toNat ≤ 57 := fun c hc => hb c (List.mem_cons_of_mem _ hc)
    have hx := ha x (List.mem_cons_self ..)
    have hy := hb y (List.mem_cons_self ..)
    unfold gtL Op.bytesLess at h
    simp only [Bool.not_eq_true', Bool.or_eq_false_iff, decide_eq_false_iff_not, Bool.and_eq_false_iff, beq_eq_false_iff_ne, ne_eq, List.cons_beq_cons] at h
    obtain ⟨⟨h1, h2⟩, h3⟩ := h
    have h1 : ¬ x.toNat < y.toNat := h1
    rw [valL, valL, hl']
    by_cases e : x = y
    · subst e
      have := gt_val a b hl' ha' hb' (by
        unfold gtL
        simp only [Bool.not_eq_true', Bool.or_eq_false_iff, beq_eq_false_iff_ne, ne_eq]
        refine ⟨?_, ?_⟩
        · rcases h2 with h2 | h2
          · exact absurd rfl h2
          · exact h2
        · rcases h3 with h3 | h3
          · exact absurd rfl h3
          · exact h3)
      omega
    · have hne : x.toNat ≠ y.toNat := fun h => e (UInt8.toNat_inj.1 h)
      have h4 := valL_lt b hb'
      have h5 : (y.toNat - 48 + 1) * 10 ^ b.length ≤ (x.toNat - 48) * 10 ^ b.length := Nat.mul_le_mul_right _ (by omega)
      rw [Nat.add_mul] at h5
      omega
theorem rpar_txt (n : Nat) (h : n < 18446744073709551616) : rpar (txt n) = (n, 0) := by
  have hp := par_txt n h
  have h1 : parF (txt n) 0 = some n := parF_txt 19 n (Nat.lt_of_lt_of_le h (by decide)) h
  obtain ⟨hd, hv⟩ := parF_val _ _ _ h1
  have hb : ¬ badN (txt n) := by
    rintro (hb | hb | hb | ⟨hb, hg⟩)
    · exact txtF_ne 19 n hb
    · have := txtF_len 19 n
      have h2 : (txt n).length ≤ 20 := this
      omega
    · unfold par at hp
      rw [if_pos (.inr hb)] at hp
      have := congrArg Prod.snd hp
      simp at this
    · have hm : ∀ c ∈ mostL, 48 ≤ c.toNat ∧ c.toNat ≤ 57 := by decide
      have := gt_val (txt n) mostL hb hd hm hg
      have e : valL mostL = 18446744073709551615 := by decide +kernel
      rw [e] at this
      omega
  unfold rpar
  rw [if_neg hb, rfF_par _ _ _ (by omega) h1]
  rfl
theorem rpar_lt (l : List UInt8) : (rpar l).1 < 18446744073709551616 := by
  have hf : ∀ (l : List UInt8) (n m : Nat), n < 18446744073709551616 → rfF l n = some m → m < 18446744073709551616 := by
    intro l
    induction l with
    | nil => intro n m hn h; simp only [rfF, Option.some.injEq] at h; omega
    | cons c r ih =>
      intro n m hn h
      rw [rfF_cons] at h
      split at h
      · exact ih _ m (Nat.mod_lt _ (by decide)) h
      · cases h
  unfold rpar
  split
  · decide
  · cases h : rfF l 0 with
    | none => show 0 < _; decide
    | some m => exact hf l 0 m (by decide) h
theorem rpar_e (l : List UInt8) : (rpar l).2 = 0 ∨ (rpar l).2 = 10 := by
  unfold rpar
  split
  · exact .inr rfl
  · cases rfF l 0
    · exact .inr rfl
    · exact .inl rfl

set_option maxRecDepth 100000 in
set_option maxHeartbeats 2000000 in
theorem rparse_ok (l : List UInt8) (w : World) (hl : l.length ≤ 1000000) : Calls Tryz.prog 38 #[strV l] w fun e w' => e = .returned (.tuple #[.int .u64 ((rpar l).1 : Nat), .int .i64 (rpar l).2]) ∧ w' = w := by
  by_cases h0 : l = []
  · subst h0
    go_enter Tryz.func38, Tryz.ntmps38
    go_wp2
    go_ret2
    exact ⟨rfl, rfl⟩
  · have hp : 0 < l.length := List.length_pos_iff.2 h0
    by_cases h20 : 20 < l.length
    · have hn : rpar l = (0, 10) := by unfold rpar; rw [if_pos (.inr (.inl h20))]
      have hi : (20 : Int) < (l.length : Int) := by omega
      have hz : ((l.length : Int) == 0) = false := by simp; omega
      have HN := Lib.hid hn
      clear hn h20 h0
      go_enter Tryz.func38, Tryz.ntmps38
      go_wp2
      rw [HN.out]
      go_ret2
      exact ⟨rfl, rfl⟩
    · obtain ⟨x, hx⟩ : ∃ x, x = (l[0]).toNat := ⟨_, rfl⟩
      have hx0 : ∀ w, (Instr.index 9 (strV l) (.int .i64 0)).run Tryz.prog w = .ok (.int .u8 (x : Int)) w := fun w => by rw [hx]; exact str_ix hp w
      have hhd : l.head? = some 48 ↔ x = 48 := by
        have e : l.head? = some l[0] := by rw [List.head?_eq_getElem?, List.getElem?_eq_getElem hp]
        rw [e, hx]
        simp only [Option.some.injEq]
        constructor
        · intro h; rw [h]; rfl
        · intro h; exact UInt8.toNat_inj.1 h
      have hi : (l.length : Int) ≤ 20 := by omega
      have hz : ((l.length : Int) == 0) = false := by simp; omega
      clear hx
      by_cases h1 : 1 < l.length ∧ x = 48
      · have hn : rpar l = (0, 10) := by unfold rpar; rw [if_pos (.inr (.inr (.inl ⟨h1.1, hhd.2 h1.2⟩)))]
        have h1' : (1 : Int) < (l.length : Int) := by omega
        have hb : ((x : Int) == 48) = true := by simp; omega
        have HN := Lib.hid hn
        clear hn h1 hhd h0 h20
        go_enter Tryz.func38, Tryz.ntmps38
        go_wp2
        rw [HN.out]
        go_ret2
        exact ⟨rfl, rfl⟩
      · have hor : (1 : Int) < (l.length : Int) ∧ ((x : Int) == 48) = false ∨ (l.length : Int) ≤ 1 := by
          by_cases h2 : 1 < l.length
          · exact .inl ⟨by omega, by simp; omega⟩
          · exact .inr (by omega)
        obtain ⟨gb, hgb⟩ : ∃ gb, gtL l mostL = gb := ⟨_, rfl⟩
        by_cases h2 : l.length = 20 ∧ gb = true
        · have hn : rpar l = (0, 10) := by unfold rpar; rw [if_pos (.inr (.inr (.inr ⟨h2.1, hgb.trans h2.2⟩)))]
          obtain ⟨h2, rfl⟩ := h2
          have hb : ((l.length : Int) == 20) = true := by simp; omega
          have HN := Lib.hid hn
          clear hn h1 hhd h0 h20 h2
          rcases hor with ⟨h1, h2⟩ | h1
          all_goals
            go_enter Tryz.func38, Tryz.ntmps38
            go_wp2
            rw [HN.out]
            go_ret2
            exact ⟨rfl, rfl⟩
        · have hpar : rpar l = res 10 (rfF l 0) := by
            unfold rpar
            rw [if_neg]
            rintro (h | h | h | h)
            · exact h0 h
            · exact h20 h
            · exact h1 ⟨h.1, hhd.1 h.2⟩
            · exact h2 ⟨h.1, hgb.symm.trans h.2⟩
          have HP := Lib.hid hpar
          have hor2 : ((l.length : Int) == 20) = false ∨ ((l.length : Int) == 20) = true ∧ gb = false := by
            by_cases e : l.length = 20
            · right
              refine ⟨by simp; omega, ?_⟩
              cases gb
              · rfl
              · exact absurd ⟨e, rfl⟩ h2
            · left
              simp
              omega
          clear hpar h1 h2 hhd h0 h20
          rcases hor with ⟨h1, h2⟩ | h1 <;> rcases hor2 with g1 | ⟨g1, rfl⟩
          all_goals
            go_enter Tryz.func38, Tryz.ntmps38
            go_wp2
            go_loop [5, 6] (fun nv iv => ∃ k m, k ≤ l.length ∧ iv = .int .i64 (k : Nat) ∧ nv = .int .u64 (m : Nat) ∧ m < 18446744073709551616 ∧ rfF l 0 = rfF (l.drop k) m) (fun _ iv => (l.length - intOf iv).toNat)
            case atStart => exact ⟨0, 0, Nat.zero_le _, rfl, rfl, by omega, rfl⟩
            case round =>
              obtain ⟨k, m, hk, rfl, rfl, hm, hpf⟩ := hrel
              by_cases hlt : k < l.length
              · obtain ⟨y, hy⟩ : ∃ y, y = (l[k]).toNat := ⟨_, rfl⟩
                have hyk : ∀ w, (Instr.index 9 (strV l) (.int .i64 (k : Int))).run Tryz.prog w = .ok (.int .u8 (y : Int)) w := fun w => by rw [hy]; exact str_ix hlt w
                have hdr : rfF l 0 = if 48 ≤ y ∧ y ≤ 57 then rfF (l.drop (k + 1)) ((10 * m + (y - 48)) % 18446744073709551616) else none := by rw [hpf, List.drop_eq_getElem_cons hlt, rfF_cons, ← hy]
                have HY := Lib.hid hy
                have HF := Lib.hid hdr
                have hyl : y < 256 := by rw [hy]; exact (l[k]).toNat_lt
                have hlti : (k : Int) < (l.length : Int) := by omega
                clear hy hdr hpf
                by_cases hc : y < 48
                · have hc' : (y : Int) < 48 := by omega
                  have hn : rpar l = (0, 10) := by rw [HP.out, HF.out, if_neg (by omega)]; rfl
                  have HN := Lib.hid hn
                  clear hn
                  go_wp2
                  go_ret2
                  rw [HN.out]
                  exact ⟨rfl, rfl⟩
                · have hc1 : (48 : Int) ≤ (y : Int) := by omega
                  by_cases hc2 : 57 < y
                  · have hc' : (57 : Int) < (y : Int) := by omega
                    have hn : rpar l = (0, 10) := by rw [HP.out, HF.out, if_neg (by omega)]; rfl
                    have HN := Lib.hid hn
                    clear hn
                    go_wp2
                    go_ret2
                    rw [HN.out]
                    exact ⟨rfl, rfl⟩
                  · have hc3 : (y : Int) ≤ 57 := by omega
                    go_wp2
                    go_round
                    case rel => exact ⟨k + 1, (10 * m + (y - 48)) % 18446744073709551616, by omega, by go_num, by (try simp only [IntKind.wrap_u64]); congr 1; omega, Nat.mod_lt _ (by decide), by rw [HF.out, if_pos (by omega)]⟩
                    case measure => simp [intOf]; omega
              · obtain rfl : k = l.length := by omega
                have hn : rpar l = (m, 0) := by rw [HP.out, hpf, List.drop_length]; rfl
                have HN := Lib.hid hn
                clear hn hpf
                go_wp2
                go_ret2
                rw [HN.out]
                exact ⟨rfl, rfl⟩
end Go.Proofs.YtbfbcbhnknhgnaaGreatDoor

namespace Go.Proofs.YtbfbcbhnknhgnaaGreatDoor
open Go.RowKit

theorem hv_of (c : UInt8) : hv c = if 48 ≤ c.toNat ∧ c.toNat ≤ 57 then c.toNat - 48 else if 97 ≤ c.toNat ∧ c.toNat ≤ 102 then c.toNat - 87 else 16 := rfl
theorem rvalue_nat (y h : Nat) (hy : y < 256) (hh : h = if 48 ≤ y ∧ y ≤ 57 then y - 48 else if 97 ≤ y ∧ y ≤ 102 then y - 87 else 16) (w : World) : Calls Tryz.prog 60 #[.int .u8 (y : Int)] w fun e w' => e = .returned (.int .i64 (h : Int)) ∧ w' = w := by
  have HH := Lib.hid hh
  clear hh
  by_cases c1 : y < 48
  · have d1 : (y : Int) < 48 := by omega
    have hv : h = 16 := by rw [HH.out, if_neg (by omega), if_neg (by omega)]
    go_enter Tryz.func60, Tryz.ntmps60
    go_wp2
    go_ret
    exact ⟨by first | rfl | (rw [hv]; rfl), rfl⟩
  · by_cases c2 : y ≤ 57
    · have d1 : (48 : Int) ≤ (y : Int) := by omega
      have d2 : (y : Int) ≤ 57 := by omega
      have hv : (h : Int) = (y : Int) - 48 := by rw [HH.out, if_pos (by omega)]; omega
      have HV := Lib.hid hv
      clear hv
      go_enter Tryz.func60, Tryz.ntmps60
      go_wp2
      go_ret
      exact ⟨by rw [HV.out]; rfl, rfl⟩
    · by_cases c3 : y < 97
      · have d1 : (48 : Int) ≤ (y : Int) := by omega
        have d2 : (57 : Int) < (y : Int) := by omega
        have d3 : (y : Int) < 97 := by omega
        have hv : h = 16 := by rw [HH.out, if_neg (by omega), if_neg (by omega)]
        go_enter Tryz.func60, Tryz.ntmps60
        go_wp2
        go_ret
        exact ⟨by first | rfl | (rw [hv]; rfl), rfl⟩
      · by_cases c4 : y ≤ 102
        · have d1 : (48 : Int) ≤ (y : Int) := by omega
          have d2 : (57 : Int) < (y : Int) := by omega
          have d3 : (97 : Int) ≤ (y : Int) := by omega
          have d4 : (y : Int) ≤ 102 := by omega
          have hv : (h : Int) = (y : Int) - 87 := by rw [HH.out, if_neg (by omega), if_pos (by omega)]; omega
          have HV := Lib.hid hv
          clear hv
          go_enter Tryz.func60, Tryz.ntmps60
          go_wp2
          go_ret
          exact ⟨by rw [HV.out]; rfl, rfl⟩
        · have d1 : (48 : Int) ≤ (y : Int) := by omega
          have d2 : (57 : Int) < (y : Int) := by omega
          have d3 : (97 : Int) ≤ (y : Int) := by omega
          have d4 : (102 : Int) < (y : Int) := by omega
          have hv : h = 16 := by rw [HH.out, if_neg (by omega), if_neg (by omega)]
          go_enter Tryz.func60, Tryz.ntmps60
          go_wp2
          go_ret
          exact ⟨by first | rfl | (rw [hv]; rfl), rfl⟩

/-- A hex text's number; none: a byte is no hex digit. -/
def rxF : List UInt8 → Nat → Option Nat
  | [], n => some n
  | c :: r, n => if hv c < 16 then rxF r ((16 * n + hv c) % 18446744073709551616) else none
theorem rxF_cons (c : UInt8) (r : List UInt8) (n : Nat) : rxF (c :: r) n = if hv c < 16 then rxF r ((16 * n + hv c) % 18446744073709551616) else none := rfl
def rxR (l : List UInt8) : Option Nat → Nat × Bool
  | none => (0, false)
  | some m => (m, decide ((l.length : Int) = 16))
def rhx (l : List UInt8) : Nat × Bool := rxR l (rxF l 0)
theorem rxF_rh : ∀ (l : List UInt8) (n n' m : Nat), n' = n % 18446744073709551616 → rhF l n = some m → rxF l n' = some (m % 18446744073709551616)
  | [], n, n', m, hn, h => by
    simp only [rhF, Option.some.injEq] at h
    subst h
    rw [hn]
    rfl
  | c :: r, n, n', m, hn, h => by
    rw [rhF_cons] at h
    rw [rxF_cons]
    split at h
    · rename_i hc
      rw [if_pos hc]
      exact rxF_rh r _ _ m (by omega) h
    · cases h
theorem rhx_hex (n : Nat) (h : n < 18446744073709551616) : rhx (hexT n) = (n, true) := by
  have h1 : rhF (hexT n) 0 = some n := rhF_hex 16 n (Nat.lt_of_lt_of_eq h (by decide))
  have h2 := rxF_rh _ 0 0 n rfl h1
  have h3 : (hexT n).length = 16 := hexF_len 16 n
  unfold rhx
  rw [h2, Nat.mod_eq_of_lt h]
  unfold rxR
  rw [h3]
  rfl
theorem rhx_lt (l : List UInt8) : (rhx l).1 < 18446744073709551616 := by
  have hf : ∀ (l : List UInt8) (n m : Nat), n < 18446744073709551616 → rxF l n = some m → m < 18446744073709551616 := by
    intro l
    induction l with
    | nil => intro n m hn h; simp only [rxF, Option.some.injEq] at h; omega
    | cons c r ih =>
      intro n m hn h
      rw [rxF_cons] at h
      split at h
      · exact ih _ m (Nat.mod_lt _ (by decide)) h
      · cases h
  unfold rhx
  cases h : rxF l 0 with
  | none => show 0 < _; decide
  | some m => exact hf l 0 m (by decide) h

set_option maxRecDepth 100000 in
set_option maxHeartbeats 2000000 in
theorem rhex26_ok (l : List UInt8) (w : World) (hl : l.length ≤ 1000000) : Calls Tryz.prog 39 #[strV l] w fun e w' => e = .returned (.tuple #[.int .u64 ((rhx l).1 : Nat), .bool (rhx l).2]) ∧ w' = w := by
  have hr : rhx l = rxR l (rxF l 0) := rfl
  have HR := Lib.hid hr
  clear hr
  go_enter Tryz.func39, Tryz.ntmps39
  go_wp2
  go_loop [4, 5] (fun nv iv => ∃ k m, k ≤ l.length ∧ iv = .int .i64 (k : Nat) ∧ nv = .int .u64 (m : Nat) ∧ m < 18446744073709551616 ∧ rxF l 0 = rxF (l.drop k) m) (fun _ iv => (l.length - intOf iv).toNat)
  case atStart => exact ⟨0, 0, Nat.zero_le _, rfl, rfl, by omega, rfl⟩
  case round =>
    obtain ⟨k, m, hk, rfl, rfl, hm, hpf⟩ := hrel
    by_cases hlt : k < l.length
    · obtain ⟨y, hy⟩ : ∃ y, y = (l[k]).toNat := ⟨_, rfl⟩
      have hyk : ∀ w, (Instr.index 9 (strV l) (.int .i64 (k : Int))).run Tryz.prog w = .ok (.int .u8 (y : Int)) w := fun w => by rw [hy]; exact str_ix hlt w
      obtain ⟨h, hh⟩ : ∃ h, h = hv l[k] := ⟨_, rfl⟩
      have hdr : rxF l 0 = if h < 16 then rxF (l.drop (k + 1)) ((16 * m + h) % 18446744073709551616) else none := by rw [hpf, List.drop_eq_getElem_cons hlt, rxF_cons, ← hh]
      have hhy : h = if 48 ≤ y ∧ y ≤ 57 then y - 48 else if 97 ≤ y ∧ y ≤ 102 then y - 87 else 16 := by rw [hh, hv_of, ← hy]
      have hyl : y < 256 := by rw [hy]; exact (l[k]).toNat_lt
      have hhl : h ≤ 16 := by rw [hh]; exact hv_le _
      have HV := Lib.hid (fun w => rvalue_nat y h hyl hhy w)
      have HF := Lib.hid hdr
      have hlti : (k : Int) < (l.length : Int) := by omega
      clear hy hdr hpf hh hhy
      go_wp2_with fail
      refine (HV.out _).mono ?_
      rintro e w' ⟨rfl, hw'⟩
      rw [hw']
      clear hw' w'
      by_cases h16 : h < 16
      · have hi : (h : Int) ≤ 15 := by omega
        go_wp2_with fail
        refine (HV.out _).mono ?_
        rintro e w' ⟨rfl, hw'⟩
        rw [hw']
        clear hw' w'
        go_wp2_with fail
        go_round
        case rel => exact ⟨k + 1, (16 * m + h) % 18446744073709551616, by omega, by go_num, by (try simp only [IntKind.wrap_u64]); congr 1; omega, Nat.mod_lt _ (by decide), by rw [HF.out, if_pos h16]⟩
        case measure => simp [intOf]; omega
      · have hi : (15 : Int) < (h : Int) := by omega
        have hn : rhx l = (0, false) := by rw [HR.out, HF.out, if_neg h16]; rfl
        have HN := Lib.hid hn
        clear hn
        go_wp2_with fail
        rw [HN.out]
        go_ret2
        exact ⟨rfl, rfl⟩
    · obtain rfl : k = l.length := by omega
      have hn : rhx l = (m, decide ((l.length : Int) = 16)) := by rw [HR.out, hpf, List.drop_length]; rfl
      have HN := Lib.hid hn
      clear hn hpf
      go_wp2
      rw [HN.out]
      go_ret2
      exact ⟨rfl, rfl⟩

/-- What Split makes of the rest. -/
def glue (pre : List (List UInt8)) (cur r : List UInt8) : List (List UInt8) := pre ++ (match splitL r with
  | h :: t => (cur ++ h) :: t
  | [] => [cur])
theorem glue_start (l : List UInt8) : splitL l = glue [] [] l := by
  unfold glue
  cases h : splitL l with
  | nil => exact absurd h (splitL_ne l)
  | cons a t => rfl
theorem glue_end (pre : List (List UInt8)) (cur : List UInt8) : glue pre cur [] = pre ++ [cur] := by simp [glue, splitL]
theorem glue_blank (pre : List (List UInt8)) (cur r : List UInt8) : glue pre cur (32 :: r) = glue (pre ++ [cur]) [] r := by
  unfold glue
  rw [show splitL (32 :: r) = [] :: splitL r by simp [splitL]]
  cases h : splitL r with
  | nil => exact absurd h (splitL_ne r)
  | cons a t => simp
theorem glue_byte (pre : List (List UInt8)) (cur r : List UInt8) (c : UInt8) (hc : c ≠ 32) : glue pre cur (c :: r) = glue pre (cur ++ [c]) r := by
  unfold glue
  have : splitL (c :: r) = match splitL r with
    | h :: t => (c :: h) :: t
    | [] => [[c]] := by
    conv => lhs; unfold splitL
    rw [if_neg hc]
    rfl
  rw [this]
  cases h : splitL r with
  | nil => exact absurd h (splitL_ne r)
  | cons a t => simp
theorem words_flat2 (ws : List (List UInt8)) : ws.flatMap stC = ws.map strV := by
  induction ws with
  | nil => rfl
  | cons a ws ih => simp [stC, ih]
def SplPost (w : World) (l : List (List UInt8)) (e : Ending) (w' : World) : Prop := ∃ v, e = .returned v ∧ Sl stC w' w'.heap.size v l ∧ Below w.heap.size w w'

set_option maxRecDepth 100000 in
set_option maxHeartbeats 4000000 in
theorem rsplit_ok (l : List UInt8) (w : World) (hl : l.length ≤ 100000) : Calls Tryz.prog 37 #[strV l] w (SplPost w (splitL l)) := by
  have h1 := Own.of_blk (enc := stC) (k := 1) (l := [[]]) (base := w.heap.size) (Blk.new w 9 #[strV []]) (Nat.le_refl _) rfl stC_len (by unfold maxLen; simp)
  have hW1 := (Below.refl w.heap.size w).alloc (Nat.le_refl _) (.cells #[strV []] 9)
  have HO := Lib.hid h1
  have HW := Lib.hid hW1
  clear h1 hW1
  go_enter Tryz.func37, Tryz.ntmps37
  go_wp2_with fail
  go_loopw [3, 4] (fun v iv wr => ∃ k pre cur g cap, k ≤ l.length ∧ iv = .int .i64 (k : Nat) ∧ v = .slice (some ⟨g, 0, none⟩) (pre.length + 1) cap ∧ Own stC 1 9 wr w.heap.size (.slice (some ⟨g, 0, none⟩) (pre.length + 1) cap) (pre ++ [cur]) ∧ pre.length ≤ k ∧ cur.length ≤ k ∧ splitL l = glue pre cur (l.drop k) ∧ Below w.heap.size w wr) (fun _ iv _ => (l.length - intOf iv).toNat)
  case atStart => exact ⟨0, [], [], w.heap.size, 1, Nat.zero_le _, rfl, rfl, HO.out, Nat.le_refl _, Nat.le_refl _, glue_start l, HW.out⟩
  case round =>
    obtain ⟨k, pre, cur, g, cap, hk, rfl, rfl, hown, hpl, hcl, hgl, hbel⟩ := hrel
    by_cases hlt : k < l.length
    · obtain ⟨c, hc⟩ : ∃ c, c = l[k] := ⟨_, rfl⟩
      have hyk : ∀ w, (Instr.index 9 (strV l) (.int .i64 (k : Int))).run Tryz.prog w = .ok (.int .u8 (c.toNat : Int)) w := fun w => by rw [hc]; exact str_ix hlt w
      have hdr : l.drop k = c :: l.drop (k + 1) := by rw [hc]; exact List.drop_eq_getElem_cons hlt
      have hcut : (ByteArray.mk l.toArray).extract k (k + 1) = ⟨[c].toArray⟩ := by
        rw [ba_cut, List.drop_take, show k + 1 - k = 1 by omega, hdr]
        rfl
      have hlti : (k : Int) < (l.length : Int) := by omega
      have HB := Lib.hid hbel
      have HO := Lib.hid hown
      rw [hdr] at hgl
      clear hbel hown hc hdr HW
      by_cases h32 : c = 32
      · subst h32
        rw [glue_blank] at hgl
        have HG := Lib.hid hgl
        have hsz := HB.out.size
        clear hgl hcut
        go_wp2_with (at_builtin; refine app_one st_elem st_enc rfl (.tmp 16) (.tmp 17) rfl rfl (HO.out.alloc _) ([] : List UInt8) wr.heap.size 1 rfl (Blk.lay (Blk.new _ _ _)) (by unfold maxLen; simp; omega) (by simp; omega) (by simp; omega) ?_; intro g' cap' w5 hown5 hgrow hat hlt5; have HO5 := Lib.hid hown5; have HW5 := Lib.hid (below_of_own hgrow (by simp; omega) (HO.out.alloc _)); clear hown5 hgrow hat)
        go_wp2_with fail
        go_roundw
        case rel => exact ⟨k + 1, pre ++ [cur], [], g', cap', by omega, by go_num, by simp, HO5.out, by simp; omega, by simp, HG.out, HB.out.trans ((Below.refl _ _).alloc (by omega) _ |>.trans HW5.out)⟩
        case measure => simp [intOf]; omega
      · rw [glue_byte _ _ _ _ h32] at hgl
        have HG := Lib.hid hgl
        have hne : ((c.toNat : Int) == 32) = false := by
          have : c.toNat ≠ 32 := fun h => h32 (UInt8.toNat_inj.1 h)
          simp
          omega
        have how : wr.ownsRow w.heap.size 9 1 (.slice (some ⟨g, 0, none⟩) (pre.length + 1) cap) (pre.length + 1) ((pre ++ [cur]).map strV) := by
          have h := HO.out
          unfold Own at h
          rw [words_flat2, List.length_append, List.length_singleton] at h
          exact h
        have hst := (show (wr.drewN 1).ownsRow w.heap.size 9 1 (.slice (some ⟨g, 0, none⟩) (pre.length + 1) cap) (pre.length + 1) ((pre ++ [cur]).map strV) from how).stored pre.length (strV (cur ++ [c]))
        have hcell := how.cellAt pre.length (by omega)
        have hfr := how.frozenAt pre.length
        have hset : ((pre ++ [cur]).map strV).set pre.length (strV (cur ++ [c])) = (pre ++ [cur ++ [c]]).map strV := by simp
        rw [hset] at hst
        have hg1 : w.heap.size ≤ g := (HO.out.lt g rfl).1
        rw [show ((pre ++ [cur]).map strV)[pre.length]? = some (strV cur) by simp] at hcell
        have hnn : (pre.length : Int) < ((pre.length + 1 : Nat) : Int) := by omega
        have hw1 : IntKind.i64.wrap (((pre.length + 1 : Nat) : Int) - 1) = (pre.length : Int) := by rw [IntKind.wrap_i64]; omega
        have hw2 : IntKind.i64.wrap ((k : Int) + 1) = (k : Int) + 1 := by rw [IntKind.wrap_i64]; omega
        have hk1 : (k : Int) + 1 ≤ (l.length : Int) := by omega
        have hk2 : ((k : Int) + 1).toNat = k + 1 := by omega
        have hk3 : (0 : Int) ≤ (k : Int) + 1 := by omega
        have hk4 : (k : Int) ≤ (k : Int) + 1 := by omega
        have hadd := fun w => str_add cur [c] (by simp; omega) w
        have HST := Lib.hid hst
        have HH := Lib.hid hgl
        obtain ⟨n, hn⟩ : ∃ n, n = pre.length := ⟨_, rfl⟩
        obtain ⟨N, hN⟩ : ∃ N, N = pre.length + 1 := ⟨_, rfl⟩
        rw [← hN, ← hn] at hnn hw1
        rw [← hn] at hcell hfr
        rw [← hN]
        have HN := Lib.hid hN
        have Hn := Lib.hid hn
        clear how hst hset hgl h32 hN hn
        go_wp2_with fail
        refine still_tail 17 (by kernel_rfl) (by kernel_rfl) ?_
        have hcell2 : wr.drew.cell? ⟨g, n, none⟩ = some (strV cur) := hcell
        have hfr2 : wr.drew.frozen? ⟨g, n, none⟩ = false := hfr
        have HD := Lib.hid (show wr.drew = wr.drewN 1 from rfl)
        generalize wr.drew = w2 at *
        simp only [List.take_succ_cons, List.take_zero, List.drop_succ_cons, List.drop_zero]
        repeat still_step
        refine wpStill_nil ?_
        clear hk1 hk2 hk3 hk4 hw1 hw2
        go_wp2_with fail
        go_roundw
        case rel =>
          refine ⟨k + 1, pre, cur ++ [c], g, cap, by omega, by go_num, by rw [HN.out], ?_, by omega, by simp; omega, HH.out, ?_⟩
          · rw [HD.out, Hn.out]
            unfold Own
            rw [words_flat2, List.length_append, List.length_singleton]
            exact HST.out.1
          · rw [HD.out]
            exact (below_drewN HB.out 1).setCell hg1 _
        case measure => simp [intOf]; omega
    · obtain rfl : k = l.length := by omega
      rw [List.drop_length, glue_end] at hgl
      have HO := Lib.hid hown
      have HB := Lib.hid hbel
      have HG := Lib.hid hgl
      clear hown hbel hgl HW
      go_wp2_with fail
      go_ret
      refine ⟨_, rfl, ?_, HB.out⟩
      rw [HG.out]
      exact HO.out.sl
end Go.Proofs.YtbfbcbhnknhgnaaGreatDoor

namespace Go.Proofs.YtbfbcbhnknhgnaaGreatDoor
open Go.RowKit

def QPost2 (w : World) (p : List UInt8 × Bool) (e : Ending) (w' : World) : Prop := e = .returned (.tuple #[strV p.1, .bool p.2]) ∧ Below w.heap.size w w'
theorem ix_plus {l : List UInt8} {k j : Nat} {c : UInt8} (h : l[k + j]? = some c) (w : World) : (Instr.index 9 (strV l) (.int .i64 ((k : Int) + (j : Int)))).run Tryz.prog w = .ok (.int .u8 (c.toNat : Int)) w := by
  obtain ⟨hlt, rfl⟩ := List.getElem?_eq_some_iff.1 h
  have e : (k : Int) + (j : Int) = ((k + j : Nat) : Int) := by omega
  rw [e]
  exact str_ix hlt w

set_option linter.unusedSimpArgs false in
set_option maxRecDepth 100000 in
set_option maxHeartbeats 4000000 in
theorem runq_ok (l : List UInt8) (w : World) (hl : l.length ≤ 100000) : Calls Tryz.prog 40 #[strV l] w (QPost2 w (unq l)) := by
  by_cases h0 : l = [45]
  · subst h0
    go_enter Tryz.func40, Tryz.ntmps40
    go_wp2
    go_ret2
    exact ⟨rfl, Below.refl _ _⟩
  · have hq : unq l = unqR l (unqF l) := by unfold unq; rw [if_neg h0]
    have HQ := Lib.hid hq
    have hb : (l == [45]) = false := by simpa using h0
    clear hq h0
    go_enter Tryz.func40, Tryz.ntmps40
    go_wp2
    go_loopw [4, 5] (fun v iv wr => ∃ k acc, k ≤ l.length ∧ iv = .int .i64 (k : Nat) ∧ acc.length ≤ k ∧ unqF l = (unqF (l.drop k)).map (acc ++ ·) ∧ Own byC 1 5 wr w.heap.size v acc ∧ Below w.heap.size w wr) (fun _ iv _ => (l.length - intOf iv).toNat)
    case atStart => exact ⟨0, [], Nat.zero_le _, rfl, Nat.le_refl _, by simp, Own.nil, Below.refl _ _⟩
    case round =>
      obtain ⟨k, acc, hk, rfl, hacc, huq, hown, hbel⟩ := hrel
      obtain ⟨A, cap, rfl⟩ := hown.form
      have HO := Lib.hid hown
      have HW := Lib.hid hbel
      have HU := Lib.hid huq
      have hsz := hbel.size
      clear hown hbel huq
      by_cases hlt : k < l.length
      · obtain ⟨x, r, hxr⟩ : ∃ x r, l.drop k = x :: r := ⟨_, _, List.drop_eq_getElem_cons hlt⟩
        have hrl : r.length + k + 1 = l.length := by
          have := congrArg List.length hxr
          simp at this
          omega
        have hx : l[k] = x := by
          have := List.drop_eq_getElem_cons hlt
          rw [hxr] at this
          simp only [List.cons.injEq] at this
          exact this.1.symm
        have hyk : ∀ w, (Instr.index 9 (strV l) (.int .i64 (k : Int))).run Tryz.prog w = .ok (.int .u8 (x.toNat : Int)) w := fun w => by rw [← hx]; exact str_ix hlt w
        have hr : l.drop (k + 1) = r := by
          rw [← List.drop_drop, hxr]
          rfl
        have HX := Lib.hid hxr
        have HR := Lib.hid hr
        have hlti : (k : Int) < (l.length : Int) := by omega
        clear hxr hx hr
        by_cases hc : x.toNat = 92
        · have hc' : ((x.toNat : Int) == 92) = true := by simp; omega
          have HC := Lib.hid hc
          clear hc
          by_cases h3 : r.length < 2
          · have h3' : (l.length : Int) ≤ (k : Int) + 2 := by omega
            have hn : unq l = ([], false) := by rw [HQ.out, HU.out, HX.out, unqF_short x r HC.out h3]; rfl
            have HN := Lib.hid hn
            clear hn
            go_wp2
            go_ret2
            rw [HN.out]
            exact ⟨rfl, HW.out⟩
          · have h3' : (k : Int) + 2 < (l.length : Int) := by omega
            obtain ⟨a, b, r, rfl⟩ : ∃ a b r', r = a :: b :: r' := by
              match r, h3 with
              | a :: b :: r', _ => exact ⟨a, b, r', rfl⟩
              | [_], h => exact absurd (by simp) h
              | [], h => exact absurd (by simp) h
            have hia : l[k + 1]? = some a := by
              have : (l.drop (k + 1))[0]? = some a := by rw [HR.out]; rfl
              simpa using this
            have hib : l[k + 2]? = some b := by
              have : (l.drop (k + 1))[1]? = some b := by rw [HR.out]; rfl
              rw [List.getElem?_drop] at this
              exact this
            have ia : ∀ w, (Instr.index 9 (strV l) (.int .i64 ((k : Int) + 1))).run Tryz.prog w = .ok (.int .u8 (a.toNat : Int)) w := ix_plus (j := 1) hia
            have ib : ∀ w, (Instr.index 9 (strV l) (.int .i64 ((k : Int) + 2))).run Tryz.prog w = .ok (.int .u8 (b.toNat : Int)) w := ix_plus (j := 2) hib
            have hlong : r.length + 2 + k + 1 = l.length := hrl
            have hdr3 : l.drop (k + 2 + 1) = r := by
              have := congrArg (List.drop 2) HR.out
              rw [List.drop_drop] at this
              rw [show k + 2 + 1 = k + 1 + 2 by omega, this]
              rfl
            have HD := Lib.hid hdr3
            obtain ⟨na, hna⟩ : ∃ n, n = hv a := ⟨_, rfl⟩
            obtain ⟨nb, hnb⟩ : ∃ n, n = hv b := ⟨_, rfl⟩
            have HA := Lib.hid (fun w => rvalue_nat a.toNat na a.toNat_lt (by rw [hna]; exact hv_of a) w)
            have HB := Lib.hid (fun w => rvalue_nat b.toNat nb b.toNat_lt (by rw [hnb]; exact hv_of b) w)
            have HNA := Lib.hid hna
            have HNB := Lib.hid hnb
            have ha16 : na ≤ 16 := by rw [hna]; exact hv_le a
            have hb16 : nb ≤ 16 := by rw [hnb]; exact hv_le b
            clear h3 hrl hdr3 hia hib hna hnb
            go_wp2_with fail
            refine (HA.out _).mono ?_
            rintro e w' ⟨rfl, hw'⟩
            rw [hw']
            clear hw' w'
            by_cases hha : na < 16
            · have i1 : (na : Int) ≤ 15 := by omega
              go_wp2_with fail
              refine (HB.out _).mono ?_
              rintro e w' ⟨rfl, hw'⟩
              rw [hw']
              clear hw' w'
              by_cases hhb : nb < 16
              · have i2 : (nb : Int) ≤ 15 := by omega
                obtain ⟨y, hy⟩ : ∃ y : UInt8, y = UInt8.ofNat (16 * hv a + hv b) := ⟨_, rfl⟩
                have hyn : y.toNat = 16 * na + nb := by rw [hy, UInt8.toNat_ofNat', HNA.out, HNB.out]; have := HNA.out; have := HNB.out; omega
                have hu : unqF l = (unqF r).map ((acc ++ [y]) ++ ·) := by
                  rw [HU.out, HX.out, unqF_slash x a b r HC.out ⟨by rw [← HNA.out]; exact hha, by rw [← HNB.out]; exact hhb⟩, ← hy, Option.map_map]
                  congr 1
                  funext t
                  simp
                have m1 : IntKind.i64.wrap (16 * (na : Int)) = 16 * (na : Int) := by rw [IntKind.wrap_i64]; omega
                have m2 : IntKind.i64.wrap (16 * (na : Int) + (nb : Int)) = 16 * (na : Int) + (nb : Int) := by rw [IntKind.wrap_i64]; omega
                have m3 : IntKind.u8.wrap (16 * (na : Int) + (nb : Int)) = (y.toNat : Int) := by rw [IntKind.wrap_u8, hyn]; omega
                have m4 : IntKind.i64.wrap ((k : Int) + 1) = (k : Int) + 1 := by rw [IntKind.wrap_i64]; omega
                have m5 : IntKind.i64.wrap ((k : Int) + 2) = (k : Int) + 2 := by rw [IntKind.wrap_i64]; omega
                have HU2 := Lib.hid hu
                clear hu hy hyn HU hha hhb
                go_wp2_with fail
                have HOd := Lib.hid (HO.out.drewN 1)
                have hgen : wr.drewN 1 = wr.drew := rfl
                rw [hgen] at HOd
                clear hgen
                refine wp_region_held_drew (S := fun _ => True) (by kernel_rfl) trivial (fun hHeld => ?_)
                refine wpAnyH_take (i := 0) (oi := ⟨some 38, _, _, _, _, _⟩) (v := ?vv0) rfl (by kernel_rfl) (by kernel_rfl) (by kernel_rfl) (fun _ _ _ h => h) (Or.inl ⟨by rfl, ?hy0⟩) (by assumption) ?rst0
                case hy0 =>
                  intro w' _
                  go_simp
                  all_goals with_reducible rfl
                case rst0 =>
                simp only [Act.put, List.setIfInBounds_toArray, List.set_cons_zero, List.set_cons_succ]
                refine wpAnyH_take (i := 1) (oi := ⟨some 39, _, _, _, _, _⟩) (v := ?vv1) rfl (by kernel_rfl) (by kernel_rfl) (by kernel_rfl) (fun _ _ _ h => h) (Or.inl ⟨by rfl, ?hy1⟩) (by assumption) ?rst1
                case hy1 =>
                  intro w' _
                  go_simp
                  all_goals with_reducible rfl
                case rst1 =>
                simp only [Act.put, List.setIfInBounds_toArray, List.set_cons_zero, List.set_cons_succ]
                refine wpAnyH_take (i := 2) (oi := ⟨some 40, _, _, _, _, _⟩) (v := ?vv2) rfl (by kernel_rfl) (by kernel_rfl) (by kernel_rfl) (fun _ _ _ h => h) (Or.inl ⟨by rfl, ?hy2⟩) (by assumption) ?rst2
                case hy2 =>
                  intro w' _
                  go_simp
                  all_goals with_reducible rfl
                case rst2 =>
                simp only [Act.put, List.setIfInBounds_toArray, List.set_cons_zero, List.set_cons_succ]
                refine wpAnyH_take (i := 3) (oi := ⟨some 41, _, _, _, _, _⟩) (v := ?vv3) rfl (by kernel_rfl) (by kernel_rfl) (by kernel_rfl) (fun _ _ _ h => h) (Or.inl ⟨by rfl, ?hy3⟩) (by assumption) ?rst3
                case hy3 =>
                  intro w' _
                  go_simp
                  all_goals with_reducible rfl
                case rst3 =>
                simp only [Act.put, List.setIfInBounds_toArray, List.set_cons_zero, List.set_cons_succ]
                refine wpAnyH_take (i := 4) (oi := ⟨some 42, _, _, _, _, _⟩) (v := ?vv4) rfl (by kernel_rfl) (by kernel_rfl) (by kernel_rfl) (fun _ _ _ h => h) (Or.inl ⟨by rfl, ?hy4⟩) (by assumption) ?rst4
                case hy4 =>
                  intro w' _
                  go_simp
                  all_goals with_reducible rfl
                case rst4 =>
                simp only [Act.put, List.setIfInBounds_toArray, List.set_cons_zero, List.set_cons_succ]
                refine wpAnyH_take (i := 7) (oi := ⟨some 45, _, _, _, _, _⟩) (v := ?vv7) rfl (by kernel_rfl) (by kernel_rfl) (by kernel_rfl) (fun _ _ _ h => h) (Or.inl ⟨by rfl, ?hy7⟩) (by assumption) ?rst7
                case hy7 =>
                  intro w' _
                  go_simp
                  all_goals with_reducible rfl
                case rst7 =>
                simp only [Act.put, List.setIfInBounds_toArray, List.set_cons_zero, List.set_cons_succ]
                refine wpAnyH_take (i := 8) (oi := ⟨some 46, _, _, _, _, _⟩) (v := ?vv8) rfl (by kernel_rfl) (by kernel_rfl) (by kernel_rfl) (fun _ _ _ h => h) (Or.inl ⟨by rfl, ?hy8⟩) (by assumption) ?rst8
                case hy8 =>
                  intro w' _
                  go_simp
                  all_goals with_reducible rfl
                case rst8 =>
                simp only [Act.put, List.setIfInBounds_toArray, List.set_cons_zero, List.set_cons_succ]
                refine wpAnyH_take (i := 9) (oi := ⟨some 47, _, _, _, _, _⟩) (v := ?vv9) rfl (by kernel_rfl) (by kernel_rfl) (by kernel_rfl) (fun _ _ _ h => h) (Or.inl ⟨by rfl, ?hy9⟩) (by assumption) ?rst9
                case hy9 =>
                  intro w' _
                  go_simp
                  all_goals with_reducible rfl
                case rst9 =>
                simp only [Act.put, List.setIfInBounds_toArray, List.set_cons_zero, List.set_cons_succ]
                refine wpAnyH_take (i := 10) (oi := ⟨some 48, _, _, _, _, _⟩) (v := ?vv10) rfl (by kernel_rfl) (by kernel_rfl) (by kernel_rfl) (fun _ _ _ h => h) (Or.inl ⟨by rfl, ?hy10⟩) (by assumption) ?rst10
                case hy10 =>
                  intro w' _
                  go_simp
                  all_goals with_reducible rfl
                case rst10 =>
                simp only [Act.put, List.setIfInBounds_toArray, List.set_cons_zero, List.set_cons_succ]
                refine wpAnyH_ready (rs := [5]) (by kernel_rfl) (by simp) ?_
                refine AllReadyH.cons rfl (fun K hK => ?_) AllReadyH.nil
                go_simp
                refine (HA.out _).mono ?_
                rintro e w' ⟨rfl, hw'⟩
                rw [hw']
                clear hw' w'
                go_wp2_with fail
                refine hK.out _ _ trivial (fun hHeld => ?_)
                clear hK K
                (try simp only [Act.put, List.setIfInBounds_toArray, List.set_cons_zero, List.set_cons_succ])
                refine wpAnyH_take (i := 6) (oi := ⟨some 44, _, _, _, _, _⟩) (v := ?vv6) rfl (by kernel_rfl) (by kernel_rfl) (by kernel_rfl) (fun _ _ _ h => h) (Or.inl ⟨by rfl, ?hy6⟩) (by assumption) ?rst6
                case hy6 =>
                  intro w' _
                  go_simp
                  all_goals with_reducible rfl
                case rst6 =>
                simp only [Act.put, List.setIfInBounds_toArray, List.set_cons_zero, List.set_cons_succ]
                refine wpAnyH_ready (rs := [11]) (by kernel_rfl) (by simp) ?_
                refine AllReadyH.cons rfl (fun K hK => ?_) AllReadyH.nil
                go_simp
                refine (HB.out _).mono ?_
                rintro e w' ⟨rfl, hw'⟩
                rw [hw']
                clear hw' w'
                go_wp2_with fail
                refine hK.out _ _ trivial (fun hHeld => ?_)
                clear hK K
                (try simp only [Act.put, List.setIfInBounds_toArray, List.set_cons_zero, List.set_cons_succ])
                refine wpAnyH_take (i := 12) (oi := ⟨some 50, _, _, _, _, _⟩) (v := ?vv12) rfl (by kernel_rfl) (by kernel_rfl) (by kernel_rfl) (fun _ _ _ h => h) (Or.inl ⟨by rfl, ?hy12⟩) (by assumption) ?rst12
                case hy12 =>
                  intro w' _
                  go_simp
                  all_goals with_reducible rfl
                case rst12 =>
                simp only [Act.put, List.setIfInBounds_toArray, List.set_cons_zero, List.set_cons_succ]
                refine wpAnyH_take (i := 13) (oi := ⟨some 51, _, _, _, _, _⟩) (v := ?vv13) rfl (by kernel_rfl) (by kernel_rfl) (by kernel_rfl) (fun _ _ _ h => h) (Or.inl ⟨by rfl, ?hy13⟩) (by assumption) ?rst13
                case hy13 =>
                  intro w' _
                  go_simp
                  all_goals with_reducible rfl
                case rst13 =>
                simp only [Act.put, List.setIfInBounds_toArray, List.set_cons_zero, List.set_cons_succ]
                refine wpAnyH_ready (rs := [14]) (by kernel_rfl) (by simp) ?_
                refine AllReadyH.cons rfl (fun K hK => ?_) AllReadyH.nil
                go_simp
                go_wp2_with fail
                refine hK.out _ _ trivial (fun hHeld => ?_)
                clear hK K
                (try simp only [Act.put, List.setIfInBounds_toArray, List.set_cons_zero, List.set_cons_succ])
                refine wpAnyH_ready (rs := [15]) (by kernel_rfl) (by simp) ?_
                refine AllReadyH.cons rfl (fun K hK => ?_) AllReadyH.nil
                refine step_one by_elem by_enc rfl (.tmp 38) (.tmp 52) rfl rfl (HOd.out.alloc _) y wr.heap.size 1 rfl (Blk.lay (Blk.new _ _ _)) (by unfold maxLen; omega) (by omega) (by simp; omega) ?_
                intro g' cap' w5 hown5 hgrow hat hlt5
                have HO5 := Lib.hid hown5
                have HW5 := Lib.hid (below_of_own hgrow (by simp; omega) (HOd.out.alloc _))
                clear hown5 hgrow hat
                refine hK.out _ _ trivial (fun hHeld => ?_)
                clear hK K
                (try simp only [Act.put, List.setIfInBounds_toArray, List.set_cons_zero, List.set_cons_succ])
                refine wpAnyH_take (i := 16) (oi := ⟨some 4, _, _, _, _, _⟩) (v := ?vv16) rfl (by kernel_rfl) (by kernel_rfl) (by kernel_rfl) (fun _ _ _ h => h) (Or.inl ⟨by rfl, ?hy16⟩) (by assumption) ?rst16
                case hy16 =>
                  intro w' _
                  go_simp
                  all_goals with_reducible rfl
                case rst16 =>
                simp only [Act.put, List.setIfInBounds_toArray, List.set_cons_zero, List.set_cons_succ]
                refine wpAnyH_done (by kernel_rfl) ?_ _
                (try simp only [Act.put, List.setIfInBounds_toArray, List.set_cons_zero, List.set_cons_succ])
                go_wp2_with fail
                go_roundw
                case rel =>
                  refine ⟨k + 2 + 1, acc ++ [y], by omega, by go_num, by simp; omega, by rw [HD.out]; exact HU2.out, HO5.out, HW.out.trans ((below_drew ((Below.refl w.heap.size wr).alloc hsz _)).trans HW5.out)⟩
                case measure => simp [intOf]; omega
              · have i2 : (15 : Int) < (nb : Int) := by omega
                have hn : unq l = ([], false) := by rw [HQ.out, HU.out, HX.out, unqF_none x a b r HC.out (by rw [← HNA.out, ← HNB.out]; omega)]; rfl
                have HN := Lib.hid hn
                clear hn
                go_wp2
                go_ret2
                rw [HN.out]
                exact ⟨rfl, HW.out⟩
            · have i1 : (15 : Int) < (na : Int) := by omega
              have hn : unq l = ([], false) := by rw [HQ.out, HU.out, HX.out, unqF_none x a b r HC.out (by rw [← HNA.out, ← HNB.out]; omega)]; rfl
              have HN := Lib.hid hn
              clear hn
              go_wp2
              go_ret2
              rw [HN.out]
              exact ⟨rfl, HW.out⟩
        · have hc' : ((x.toNat : Int) == 92) = false := by simp; omega
          have HC := Lib.hid hc
          clear hc
          go_wp2_with (at_builtin; refine app_one by_elem by_enc rfl (.tmp 56) (.tmp 60) rfl rfl (HO.out.alloc _) x wr.heap.size 1 rfl (Blk.lay (Blk.new _ _ _)) (by unfold maxLen; omega) (by omega) (by simp; omega) ?_; intro g' cap' w5 hown5 hgrow hat hlt5; have HO5 := Lib.hid hown5; have HW5 := Lib.hid (below_of_own hgrow (by simp; omega) (HO.out.alloc _)); clear hown5 hgrow hat)
          go_roundw
          case rel => exact ⟨k + 1, acc ++ [x], by omega, by go_num, by simp; omega, by rw [HU.out, HX.out, unqF_plain x r HC.out, HR.out, Option.map_map]; congr 1; funext t; simp, HO5.out, HW.out.trans ((Below.refl _ _).alloc (by omega) _ |>.trans HW5.out)⟩
          case measure => simp [intOf]; omega
      · obtain rfl : k = l.length := by omega
        have hn : unq l = (acc, quo acc == l) := by
          rw [HQ.out, HU.out, List.drop_length]
          show unqR l (some (acc ++ [])) = _
          rw [List.append_nil]
          rfl
        have HN := Lib.hid hn
        have hcv := HO.out.sl.str
        clear hn
        go_wp2_with fail
        refine (rquoted_ok acc wr (by omega)).mono ?_
        rintro e w' ⟨rfl, hw'⟩
        rw [hw']
        clear hw' w'
        go_wp2_with fail
        go_ret2
        rw [HN.out]
        exact ⟨rfl, HW.out⟩
end Go.Proofs.YtbfbcbhnknhgnaaGreatDoor

namespace Go.Proofs.YtbfbcbhnknhgnaaGreatDoor
open Go.RowKit

def opN (t : List UInt8) : Nat → Nat
  | 0 => 0
  | i + 1 => if 1 ≤ i ∧ rlopsL.getD i [] = t then i else opN t i
theorem opN_lt (t : List UInt8) : ∀ i, opN t i ≤ i - 1
  | 0 => Nat.le_refl _
  | i + 1 => by
    have := opN_lt t i
    unfold opN
    split <;> omega
def wideL (op : Nat) : List Nat := if op = 3 then [0] else widths (op : Int)
def nI (op : Nat) (ws : List (List UInt8)) (i : Nat) : Nat × Bool :=
  if op = 6 then rhx (ws.getD 5 []) else ((rpar (ws.getD (5 + i) [])).1, if op = 3 then (unq (ws.getD 5 [])).2 else decide ((rpar (ws.getD (5 + i) [])).2 = 0))
def okV (wd n : Nat) : Bool := !(((decide ((wd : Int) = 1) && decide ((255 : Int) < (n : Int))) || (decide ((wd : Int) = 2) && decide ((65535 : Int) < (n : Int)))) || (decide ((wd : Int) = 4) && decide ((4294967295 : Int) < (n : Int))))
def fineI (op : Nat) (ws : List (List UInt8)) (i : Nat) : Bool := (nI op ws i).2 && okV ((wideL op).getD i 0) (nI op ws i).1
def numsT (op : Nat) (ws : List (List UInt8)) (k : Nat) : List Nat := (List.range k).map fun i => (nI op ws i).1
def txT (op : Nat) (ws : List (List UInt8)) : List UInt8 := if op = 3 then (unq (ws.getD 5 [])).1 else []
def hdT (ws : List (List UInt8)) (op : Nat) : Req := { zeroR (op : Int) with tenant := ((rpar (ws.getD 0 [])).1 : Nat), user := ((rpar (ws.getD 1 [])).1 : Nat), secret := (rhx (ws.getD 2 [])).1, m := ((rpar (ws.getD 3 [])).1 : Nat) }
def badH (ws : List (List UInt8)) (op : Nat) : Prop := (rpar (ws.getD 0 [])).2 = 10 ∨ (rpar (ws.getD 1 [])).2 = 10 ∨ (rpar (ws.getD 3 [])).2 = 10 ∨ (rhx (ws.getD 2 [])).2 = false ∨ op = 0 ∨ 255 < (rpar (ws.getD 0 [])).1 ∨ 65535 < (rpar (ws.getD 1 [])).1 ∨ 64 < (rpar (ws.getD 3 [])).1
def opT (ws : List (List UInt8)) : Nat := opN (ws.getD 4 []) 20
def qT (ws : List (List UInt8)) : Req := withR (hdT ws (opT ws)) (numsT (opT ws) ws (wideL (opT ws)).length) (txT (opT ws) ws)
/-- A line that is read. -/
structure RG (s : List UInt8) : Prop where
  len5 : 5 ≤ (splitL s).length
  head : ¬ badH (splitL s) (opT (splitL s))
  len : (splitL s).length = 5 + (wideL (opT (splitL s))).length
  fine : ∀ i, i < (wideL (opT (splitL s))).length → fineI (opT (splitL s)) (splitL s) i = true
  enc : encOk (qT (splitL s)) = true
  line : lineQ (qT (splitL s)) = s

theorem okV_iff (wd n : Nat) : okV wd n = true ↔ (wd = 1 → n ≤ 255) ∧ (wd = 2 → n ≤ 65535) ∧ (wd = 4 → n ≤ 4294967295) := by
  unfold okV
  simp only [Bool.not_eq_true', Bool.or_eq_false_iff, Bool.and_eq_false_iff, decide_eq_false_iff_not]
  omega
theorem cut_at : ∀ (ws : List Nat) (r : List UInt8) (i : Nat), i < ws.length → (cutN r ws).getD i 0 < 256 ^ (ws.getD i 0)
  | [], _, _, h => by simp at h
  | x :: ws, r, 0, _ => by
    have h1 : (r.take x).length ≤ x := List.length_take_le _ _
    have := beNat_lt (r.take x).length (r.take x) rfl
    simp only [cutN, List.getD_cons_zero]
    exact Nat.lt_of_lt_of_le this (Nat.pow_le_pow_right (by omega) h1)
  | x :: ws, r, i + 1, h => by
    simp only [cutN, List.getD_cons_succ]
    exact cut_at ws _ i (by simpa using h)
theorem okV_cut {wd n : Nat} (h : n < 256 ^ wd) : okV wd n = true := by
  rw [okV_iff]
  refine ⟨fun e => ?_, fun e => ?_, fun e => ?_⟩ <;> (subst e; omega)
theorem widths_1248 (op : Int) : ∀ x ∈ widths op, x = 1 ∨ x = 2 ∨ x = 4 ∨ x = 8 := by
  have h : (fun l : List Nat => l.all (fun x => decide (x = 1 ∨ x = 2 ∨ x = 4 ∨ x = 8)) = true) (widths op) := by
    unfold widths
    repeat' refine ite_P (P := fun l : List Nat => l.all (fun x => decide (x = 1 ∨ x = 2 ∨ x = 4 ∨ x = 8)) = true) ?_ ?_
    all_goals decide
  intro x hx
  have := List.all_eq_true.1 h x hx
  simpa using this
theorem fieldsW_with (h : Req) (v : List Nat) (t : List UInt8) (hop : isOp h.op = true) (hv : ∀ i, v.getD i 0 < 18446744073709551616) :
    fieldsW (withR h v t) = if h.op = 3 then [quo t] else if h.op = 6 then [hexT (v.getD 0 0)] else (List.range (widths h.op).length).map fun i => txt (v.getD i 0) := by
  have hh := (withR_head h v t).op
  have hu : ∀ i, u64n ((v.getD i 0 : Nat) : Int) = v.getD i 0 := fun i => u64n_nat _ (hv i)
  rcases isOp_cases hop with e | e | e | e | e | e | e | e | e | e | e | e | e | e | e | e | e | e | e
  all_goals
    unfold fieldsW
    rw [hh, e]
    simp only [List.getD_eq_getElem?_getD] at hu
    simp [withR, e, widths, nsW, hu, List.range_succ]
theorem opN_op {op : Nat} (h : isOp (op : Int) = true) : opN (opW (op : Int)) 20 = op := by
  obtain ⟨h1, h2⟩ := isOp_le h
  have h1 : 1 ≤ op := by omega
  have h2 : op ≤ 19 := by omega
  have hall : ∀ k, k < 20 → 1 ≤ k → opN (opW (k : Nat)) 20 = k := by decide +kernel
  exact hall op (by omega) h1

set_option maxHeartbeats 2000000 in
/-- Every request that may be is read of its line. -/
theorem read_all {q : Req} (h : encOk q = true) : RG (lineQ q) ∧ qT (splitL (lineQ q)) = q := by
  obtain ⟨hg, hq⟩ := enc_good h
  obtain ⟨l, hl⟩ : ∃ l, l = encL q := ⟨_, rfl⟩
  rw [← hl] at hg hq
  have hop := hg.op
  have hm64 := hg.m
  obtain ⟨hq0, hh0⟩ : ∃ hq0, headR l = hq0 := ⟨_, rfl⟩
  have hs : hq0.secret < 18446744073709551616 := by
    rw [← hh0]
    have h1 : ((l.drop 4).take 8).length ≤ 8 := by simp; omega
    have := beNat_lt ((l.drop 4).take 8).length ((l.drop 4).take 8) rfl
    exact Nat.lt_of_lt_of_le this (Nat.le_trans (Nat.pow_le_pow_right (by omega) h1) (by decide))
  have ht : ∃ n : Nat, hq0.tenant = n ∧ n ≤ 255 := ⟨_, by rw [← hh0]; rfl, by have := byN_lt l 1; omega⟩
  have hu : ∃ n : Nat, hq0.user = n ∧ n ≤ 65535 := ⟨256 * byN l 2 + byN l 3, by rw [← hh0]; simp [headR], by have := byN_lt l 2; have := byN_lt l 3; omega⟩
  have hm : ∃ n : Nat, hq0.m = n ∧ n ≤ 64 := ⟨byN l 12, by rw [← hh0]; rfl, by have e : (headR l).m = (byN l 12 : Nat) := rfl; rw [e] at hm64; omega⟩
  have ho : ∃ n : Nat, hq0.op = n := ⟨byN l 0, by rw [← hh0]; rfl⟩
  have hz : hq0 = { zeroR hq0.op with tenant := hq0.tenant, user := hq0.user, secret := hq0.secret, m := hq0.m } := by rw [← hh0]; rfl
  obtain ⟨tn, ht, bt⟩ := ht
  obtain ⟨un, hu, bu⟩ := hu
  obtain ⟨mn, hm, bm⟩ := hm
  obtain ⟨on, ho⟩ := ho
  obtain ⟨V, hV⟩ : ∃ V, V = cutN (l.drop 13) (widths hq0.op) := ⟨_, rfl⟩
  obtain ⟨tt, htt⟩ : ∃ tt, tt = (if hq0.op = 3 then l.drop 13 else []) := ⟨_, rfl⟩
  have hqr : q = withR hq0 V tt := by rw [hV, htt, ← hh0]; exact hq
  rw [hh0] at hop
  have hVl : V.length = (widths hq0.op).length := by rw [hV, cutN_len]
  have hVb : ∀ i, i < (widths hq0.op).length → V.getD i 0 < 256 ^ ((widths hq0.op).getD i 0) := fun i hi => by rw [hV]; exact cut_at _ _ i hi
  have hV8 : ∀ i, V.getD i 0 < 18446744073709551616 := fun i => by
    have := cut_lt8x (widths hq0.op) (l.drop 13) i (fun x hx => widths_le x hx)
    rw [← hV] at this
    exact Nat.lt_of_lt_of_eq this (by decide)
  have hd := withR_head hq0 V tt
  rw [← hqr] at hd
  have hlw : lineW q = txt (u64n (tn : Int)) :: txt (u64n (un : Int)) :: hexT hq0.secret :: txt (u64n (mn : Int)) :: opW hq0.op :: fieldsW q := by
    unfold lineW headW
    rw [hd.tenant, hd.user, hd.secret, hd.m, hd.op, ht, hu, hm]
    rfl
  rw [u64n_nat tn (by omega), u64n_nat un (by omega), u64n_nat mn (by omega), ho] at hlw
  have hf := fieldsW_with hq0 V tt hop hV8
  rw [← hqr, ho] at hf
  obtain ⟨ws, hws⟩ : ∃ ws, ws = splitL (lineQ q) := ⟨_, rfl⟩
  have hwe : ws = txt tn :: txt un :: hexT hq0.secret :: txt mn :: opW (on : Int) :: fieldsW q := by rw [hws, splitL_line, hlw]
  have e0 : ws.getD 0 [] = txt tn := by rw [hwe]; rfl
  have e1 : ws.getD 1 [] = txt un := by rw [hwe]; rfl
  have e2 : ws.getD 2 [] = hexT hq0.secret := by rw [hwe]; rfl
  have e3 : ws.getD 3 [] = txt mn := by rw [hwe]; rfl
  have e4 : ws.getD 4 [] = opW (on : Int) := by rw [hwe]; rfl
  have e5 : ∀ i, ws.getD (5 + i) [] = (fieldsW q).getD i [] := fun i => by
    rw [hwe, Nat.add_comm 5 i]
    rfl
  have p0 := rpar_txt tn (by omega)
  have p1 := rpar_txt un (by omega)
  have p2 := rhx_hex hq0.secret hs
  have p3 := rpar_txt mn (by omega)
  rw [ho] at hop hVl hVb hz
  have hot : opT ws = on := by unfold opT; rw [e4]; exact opN_op hop
  have hbad : ¬ badH ws on := by
    unfold badH
    rw [e0, e1, e2, e3, p0, p1, p2, p3]
    have := (isOp_le hop).1
    simp
    omega
  have hhd : hdT ws on = hq0 := by
    unfold hdT
    rw [e0, e1, e2, e3, p0, p1, p2, p3, hz, ht, hu, hm]
  have hlen5 : ws.length = 5 + (fieldsW q).length := by rw [hwe]; simp; omega
  -- the fields
  have hF : (fieldsW q).length = (wideL on).length ∧ (∀ i, i < (wideL on).length → fineI on ws i = true) ∧ withR hq0 (numsT on ws (wideL on).length) (txT on ws) = withR hq0 V tt := by
    by_cases h3 : on = 3
    · subst h3
      have hf3 : fieldsW q = [quo tt] := by rw [hf]; rfl
      have hw5 : ws.getD 5 [] = quo tt := by have := e5 0; rw [hf3] at this; exact this
      have hwl : wideL 3 = [0] := rfl
      refine ⟨by rw [hf3, hwl]; rfl, fun i hi => ?_, ?_⟩
      · rw [hwl] at hi
        have hi0 : i = 0 := by simp at hi; exact hi
        subst hi0
        unfold fineI
        rw [Bool.and_eq_true]
        refine ⟨?_, by rw [okV_iff, hwl]; simp⟩
        unfold nI
        rw [if_neg (by decide), if_pos rfl, hw5, unq_quo]
      · have ht3 : txT 3 ws = tt := by unfold txT; rw [if_pos rfl, hw5, unq_quo]
        rw [ht3]
        unfold withR
        rw [ho]
        rfl
    · have htt0 : tt = [] := by rw [htt, ho, if_neg (by omega)]
      have htx : txT on ws = tt := by unfold txT; rw [if_neg h3, htt0]
      have hwl : wideL on = widths (on : Int) := by unfold wideL; rw [if_neg h3]
      rw [htx, hwl]
      by_cases h6 : on = 6
      · subst h6
        have hf6 : fieldsW q = [hexT (V.getD 0 0)] := by rw [hf]; rfl
        have hw5 : ws.getD 5 [] = hexT (V.getD 0 0) := by have := e5 0; rw [hf6] at this; exact this
        have hw6 : widths ((6 : Nat) : Int) = [8] := rfl
        have hn : ∀ i, nI 6 ws i = (V.getD 0 0, true) := fun i => by unfold nI; rw [if_pos rfl, hw5]; exact rhx_hex _ (hV8 0)
        refine ⟨by rw [hf6, hw6]; rfl, fun i hi => ?_, ?_⟩
        · rw [hw6] at hi
          have hi0 : i = 0 := by simp at hi; exact hi
          subst hi0
          unfold fineI
          rw [hn, hwl, hw6, Bool.and_eq_true]
          exact ⟨rfl, by rw [okV_iff]; simp⟩
        · rw [hw6]
          have : numsT 6 ws [8].length = V := by
            rw [hw6] at hVl
            match V, hVl with
            | [a], _ =>
              show [(nI 6 ws 0).1] = [a]
              rw [hn]
              rfl
          rw [this]
      · have hfo : fieldsW q = (List.range (widths (on : Int)).length).map fun i => txt (V.getD i 0) := by rw [hf, if_neg (by omega), if_neg (by omega)]
        have hn : ∀ i, i < (widths (on : Int)).length → nI on ws i = (V.getD i 0, true) := fun i hi => by
          have h5 : ws.getD (5 + i) [] = txt (V.getD i 0) := by
            rw [e5, hfo, List.getD_eq_getElem?_getD, List.getElem?_map, List.getElem?_range hi]
            rfl
          unfold nI
          rw [if_neg h6, h5, rpar_txt _ (hV8 i), if_neg h3]
          rfl
        refine ⟨by rw [hfo]; simp, fun i hi => ?_, ?_⟩
        · unfold fineI
          rw [hn i hi, hwl, Bool.and_eq_true]
          exact ⟨rfl, okV_cut (hVb i hi)⟩
        · have : numsT on ws (widths (on : Int)).length = V := by
            unfold numsT
            apply List.ext_getElem?
            intro i
            rw [List.getElem?_map]
            by_cases hi : i < (widths (on : Int)).length
            · rw [List.getElem?_range hi, Option.map_some, hn i hi, List.getD_eq_getElem?_getD, List.getElem?_eq_getElem (by omega)]
              rfl
            · rw [List.getElem?_eq_none (by simpa using hi), List.getElem?_eq_none (by omega)]
              rfl
          rw [this]
  have hqt : qT ws = q := by
    unfold qT
    rw [hot, hhd, hF.2.2]
    exact hqr.symm
  rw [← hws]
  refine ⟨⟨?_, ?_, ?_, ?_, ?_, ?_⟩, hqt⟩
  · rw [← hws]; omega
  · rw [← hws, hot]; exact hbad
  · rw [← hws, hot]; omega
  · rw [← hws, hot]; exact hF.2.1
  · rw [← hws, hqt]; exact h
  · rw [← hws, hqt]
end Go.Proofs.YtbfbcbhnknhgnaaGreatDoor
