/-
  Words, in plain Lean: numbers' texts, hex texts, texts' words, lines. No program here. Conditions: none.
-/
import Derived.Lib.Join
namespace Go.Proofs.YtldjgpnbkbmgoaaGreatDoor

/-! Numbers in base ten -/
def dg (n : Nat) : UInt8 := UInt8.ofNat (48 + n % 10)
def txtF : Nat → Nat → List UInt8
  | 0, n => [dg n]
  | k + 1, n => if n < 10 then [dg n] else txtF k (n / 10) ++ [dg n]
/-- A number's text. -/
def txt (n : Nat) : List UInt8 := txtF 19 n

theorem dg_nat (n : Nat) : (dg n).toNat = 48 + n % 10 := by
  unfold dg
  rw [UInt8.toNat_ofNat']
  omega
theorem txtF_ne : ∀ (k n : Nat), txtF k n ≠ []
  | 0, n => by simp [txtF]
  | k + 1, n => by
    unfold txtF
    split <;> simp
theorem txtF_dig : ∀ (k n : Nat), ∀ c ∈ txtF k n, 48 ≤ c.toNat ∧ c.toNat ≤ 57
  | 0, n, c, h => by
    simp only [txtF, List.mem_cons, List.not_mem_nil, or_false] at h
    subst h
    rw [dg_nat]
    omega
  | k + 1, n, c, h => by
    unfold txtF at h
    have hd : 48 ≤ (dg n).toNat ∧ (dg n).toNat ≤ 57 := by rw [dg_nat]; omega
    split at h
    · simp only [List.mem_cons, List.not_mem_nil, or_false] at h
      subst h
      exact hd
    · simp only [List.mem_append, List.mem_cons, List.not_mem_nil, or_false] at h
      rcases h with h | h
      · exact txtF_dig k _ c h
      · subst h
        exact hd
theorem txtF_len : ∀ (k n : Nat), (txtF k n).length ≤ k + 1
  | 0, n => by simp [txtF]
  | k + 1, n => by
    unfold txtF
    have := txtF_len k (n / 10)
    split <;> simp <;> omega
theorem txtF_head : ∀ (k n : Nat), 1 ≤ n → n < 10 ^ (k + 1) → ∃ c r, txtF k n = c :: r ∧ 49 ≤ c.toNat
  | 0, n, h1, h2 => ⟨dg n, [], rfl, by rw [dg_nat]; omega⟩
  | k + 1, n, h1, h2 => by
    unfold txtF
    by_cases h : n < 10
    · rw [if_pos h]
      exact ⟨dg n, [], rfl, by rw [dg_nat]; omega⟩
    · rw [if_neg h]
      obtain ⟨c, r, e, hc⟩ := txtF_head k (n / 10) (by omega) (by rw [Nat.pow_succ] at h2; omega)
      exact ⟨c, r ++ [dg n], by rw [e]; rfl, hc⟩

/-- The number of digits, as far as it goes. -/
def parF : List UInt8 → Nat → Option Nat
  | [], n => some n
  | c :: r, n => if 48 ≤ c.toNat ∧ c.toNat ≤ 57 ∧ 10 * n + (c.toNat - 48) < 18446744073709551616 then parF r (10 * n + (c.toNat - 48)) else none
theorem parF_cons (c : UInt8) (r : List UInt8) (n : Nat) : parF (c :: r) n = if 48 ≤ c.toNat ∧ c.toNat ≤ 57 ∧ 10 * n + (c.toNat - 48) < 18446744073709551616 then parF r (10 * n + (c.toNat - 48)) else none := rfl
/-- A number, or an error's number. -/
def res (e : Int) : Option Nat → Nat × Int
  | some n => (n, 0)
  | none => (0, e)
/-- The number of a text, and the error's number. -/
def par (l : List UInt8) : Nat × Int := if l = [] ∨ (1 < l.length ∧ l.head? = some 48) then (0, 10) else res 10 (parF l 0)
theorem parF_app : ∀ (l m : List UInt8) (n : Nat), parF (l ++ m) n = (parF l n).bind (parF m)
  | [], m, n => rfl
  | c :: l, m, n => by
    simp only [List.cons_append, parF]
    split
    · exact parF_app l m _
    · rfl
theorem parF_txt : ∀ (k n : Nat), n < 10 ^ (k + 1) → n < 18446744073709551616 → parF (txtF k n) 0 = some n
  | 0, n, h, h2 => by
    have : (dg n).toNat = 48 + n := by rw [dg_nat]; simp at h; omega
    simp only [txtF, parF, this]
    simp at h
    rw [if_pos (by omega)]
    congr 1
    omega
  | k + 1, n, h, h2 => by
    unfold txtF
    have hd := dg_nat n
    by_cases h10 : n < 10
    · rw [if_pos h10]
      simp only [parF, hd]
      rw [if_pos (by omega)]
      congr 1
      omega
    · rw [if_neg h10, parF_app, parF_txt k (n / 10) (by rw [Nat.pow_succ] at h; omega) (by omega)]
      simp only [Option.bind_some, parF, hd]
      rw [if_pos (by omega)]
      congr 1
      omega
theorem par_txt (n : Nat) (h : n < 18446744073709551616) : par (txt n) = (n, 0) := by
  have h20 : n < 10 ^ 20 := Nat.lt_trans h (by decide)
  unfold par txt
  rw [if_neg, parF_txt 19 n h20 h]
  · rfl
  intro hc
  rcases hc with hc | ⟨hc, hh⟩
  · exact txtF_ne _ _ hc
  · rcases Nat.eq_zero_or_pos n with h0 | h0
    · subst h0
      simp [txtF] at hc
    · obtain ⟨c, r, e, hcc⟩ := txtF_head 19 n h0 h20
      rw [e] at hh
      simp only [List.head?_cons, Option.some.injEq] at hh
      subst hh
      simp at hcc
theorem par_lt (l : List UInt8) : (par l).1 < 18446744073709551616 := by
  unfold par
  split
  · simp
  · cases h : parF l 0 with
    | some n =>
      show n < _
      have key : ∀ (l : List UInt8) (a n : Nat), a < 18446744073709551616 → parF l a = some n → n < 18446744073709551616 := by
        intro l
        induction l with
        | nil => intro a n ha h; simp only [parF, Option.some.injEq] at h; omega
        | cons c r ih =>
          intro a n ha h
          unfold parF at h
          split at h
          · rename_i hc
            exact ih _ _ hc.2.2 h
          · cases h
      exact key l 0 n (by omega) h
    | none => simp [res]

/-! Hex -/
def hd (n : Nat) : UInt8 := if n < 10 then UInt8.ofNat (48 + n) else UInt8.ofNat (87 + n)
def hexF : Nat → Nat → List UInt8
  | 0, _ => []
  | k + 1, n => hexF k (n / 16) ++ [hd (n % 16)]
def hexT (n : Nat) : List UInt8 := hexF 16 n
def hv (c : UInt8) : Nat := if 48 ≤ c.toNat ∧ c.toNat ≤ 57 then c.toNat - 48 else if 97 ≤ c.toNat ∧ c.toNat ≤ 102 then c.toNat - 87 else 16
theorem hv_le (c : UInt8) : hv c ≤ 16 := by unfold hv; split <;> (try split) <;> omega
theorem hd_nat (n : Nat) (h : n < 16) : (hd n).toNat = if n < 10 then 48 + n else 87 + n := by
  unfold hd
  split <;> rw [UInt8.toNat_ofNat'] <;> omega
theorem hv_hd (n : Nat) (h : n < 16) : hv (hd n) = n := by
  unfold hv
  rw [hd_nat n h]
  split <;> split <;> (try split) <;> omega
theorem hexF_len : ∀ (k n : Nat), (hexF k n).length = k
  | 0, _ => rfl
  | k + 1, n => by simp [hexF, hexF_len k]
theorem hexF_front : ∀ (k n : Nat), hexF (k + 1) n = hd (n / 16 ^ k % 16) :: hexF k n
  | 0, n => by simp [hexF]
  | k + 1, n => by
    rw [hexF, hexF_front k (n / 16), List.cons_append, Nat.div_div_eq_div_mul, Nat.pow_succ, Nat.mul_comm]
    rfl
theorem hexF_all : ∀ (k n : Nat), ∀ c ∈ hexF k n, hv c < 16
  | 0, n, c, h => by simp [hexF] at h
  | k + 1, n, c, h => by
    simp only [hexF, List.mem_append, List.mem_cons, List.not_mem_nil, or_false] at h
    rcases h with h | h
    · exact hexF_all k _ c h
    · subst h
      rw [hv_hd _ (by omega)]
      omega
theorem hexT_byte (n : Nat) (h : n < 256) : (hexT n).drop 14 = [hd (n / 16), hd (n % 16)] := by
  have e : hexT n = hexF 14 (n / 16 / 16) ++ [hd (n / 16 % 16), hd (n % 16)] := by
    show hexF 14 (n / 16 / 16) ++ [hd (n / 16 % 16)] ++ [hd (n % 16)] = _
    simp
  rw [e, List.drop_append, List.drop_of_length_le (by rw [hexF_len]; omega), hexF_len, Nat.mod_eq_of_lt (show n / 16 < 16 by omega)]
  rfl
/-- The number of hex digits. -/
def rhF : List UInt8 → Nat → Option Nat
  | [], n => some n
  | c :: r, n => if hv c < 16 then rhF r (16 * n + hv c) else none
theorem rhF_cons (c : UInt8) (r : List UInt8) (n : Nat) : rhF (c :: r) n = if hv c < 16 then rhF r (16 * n + hv c) else none := rfl
def rhex (l : List UInt8) : Nat × Int := if l.length ≠ 16 then (0, 11) else res 11 (rhF l 0)
theorem rhF_app : ∀ (l m : List UInt8) (n : Nat), rhF (l ++ m) n = (rhF l n).bind (rhF m)
  | [], m, n => rfl
  | c :: l, m, n => by
    simp only [List.cons_append, rhF]
    split
    · exact rhF_app l m _
    · rfl
theorem rhF_hex : ∀ (k n : Nat), n < 16 ^ k → rhF (hexF k n) 0 = some n
  | 0, n, h => by
    have : n = 0 := by simpa using h
    subst this
    rfl
  | k + 1, n, h => by
    unfold hexF
    rw [rhF_app, rhF_hex k (n / 16) (by rw [Nat.pow_succ] at h; omega)]
    simp only [Option.bind_some, rhF, hv_hd (n % 16) (by omega)]
    rw [if_pos (by omega)]
    congr 1
    omega
theorem rhF_lt : ∀ (l : List UInt8) (a k n : Nat), a < 16 ^ k → rhF l a = some n → n < 16 ^ (k + l.length)
  | [], a, k, n, ha, h => by
    simp only [rhF, Option.some.injEq] at h
    subst h
    exact ha
  | c :: r, a, k, n, ha, h => by
    unfold rhF at h
    split at h
    · rename_i hc
      have := rhF_lt r (16 * a + hv c) (k + 1) n (by rw [Nat.pow_succ]; omega) h
      rw [List.length_cons, show k + (r.length + 1) = k + 1 + r.length by omega]
      exact this
    · cases h
theorem rhex_hex (n : Nat) (h : n < 18446744073709551616) : rhex (hexT n) = (n, 0) := by
  unfold rhex hexT
  rw [if_neg (by rw [hexF_len]; simp), rhF_hex 16 n (Nat.lt_of_lt_of_eq h (by decide))]
  rfl
theorem rhex_lt (l : List UInt8) : (rhex l).1 < 18446744073709551616 := by
  unfold rhex
  split
  · simp
  · rename_i hl
    have hl : l.length = 16 := by omega
    cases h : rhF l 0 with
    | some n =>
      show n < _
      have := rhF_lt l 0 0 n (by simp) h
      rw [hl] at this
      exact Nat.lt_of_lt_of_eq this (by decide)
    | none => simp [res]
theorem hexF_back : ∀ (k : Nat) (l : List UInt8) (n : Nat), l.length = k → rhF l 0 = some n → hexF k n = l
  | 0, l, n, hl, h => by
    have : l = [] := List.eq_nil_of_length_eq_zero hl
    subst this
    rfl
  | k + 1, l, n, hl, h => by
    have hne : l ≠ [] := by intro e; subst e; simp at hl
    obtain ⟨l', x, rfl⟩ : ∃ l' x, l = l' ++ [x] := ⟨l.dropLast, l.getLast hne, (List.dropLast_concat_getLast hne).symm⟩
    rw [rhF_app] at h
    cases h' : rhF l' 0 with
    | none => rw [h'] at h; cases h
    | some m =>
      rw [h'] at h
      simp only [Option.bind_some, rhF] at h
      split at h
      · rename_i hx
        simp only [Option.some.injEq] at h
        subst h
        have hd1 : (16 * m + hv x) / 16 = m := by omega
        have hd2 : (16 * m + hv x) % 16 = hv x := by omega
        unfold hexF
        rw [hd1, hd2, hexF_back k l' m (by simpa using hl) h']
        congr 2
        apply UInt8.toNat_inj.1
        rw [hd_nat _ hx]
        unfold hv at hx ⊢
        have := x.toNat_lt
        split <;> split <;> (try split) <;> (try omega) <;> split at * <;> omega
      · cases h

/-- Two digits behind zeros. -/
theorem rhex_two (a b : UInt8) : rhex ([48, 48, 48, 48, 48, 48, 48, 48, 48, 48, 48, 48, 48, 48] ++ [a, b]) = if hv a < 16 ∧ hv b < 16 then (16 * hv a + hv b, 0) else (0, 11) := by
  have z : hv 48 = 0 := by decide
  unfold rhex
  rw [if_neg (by simp)]
  simp only [List.cons_append, List.nil_append, rhF, z]
  by_cases ha : hv a < 16
  · by_cases hb : hv b < 16
    · simp [ha, hb, res]
    · simp [ha, hb, res]
  · simp [ha, res]

/-! Texts -/
def plainB (c : UInt8) : Bool := decide (33 ≤ c.toNat) && (decide (c.toNat ≤ 126) && (decide (c.toNat ≠ 92) && decide (c.toNat ≠ 45)))
def qb (c : UInt8) : List UInt8 := if plainB c = true then [c] else [92, hd (c.toNat / 16), hd (c.toNat % 16)]
def quo (l : List UInt8) : List UInt8 := if l = [] then [45] else l.flatMap qb
def unqF : List UInt8 → Option (List UInt8)
  | [] => some []
  | [c] => if c.toNat ≠ 92 then some [c] else none
  | [c, a] => if c.toNat ≠ 92 then (unqF [a]).map (c :: ·) else none
  | c :: a :: b :: r => if c.toNat ≠ 92 then (unqF (a :: b :: r)).map (c :: ·) else
      if hv a < 16 ∧ hv b < 16 then (unqF r).map (UInt8.ofNat (16 * hv a + hv b) :: ·) else none
theorem unqF_plain (c : UInt8) (r : List UInt8) (h : c.toNat ≠ 92) : unqF (c :: r) = (unqF r).map (c :: ·) := by
  match r with
  | [] => simp [unqF, h]
  | [a] => conv => lhs; rw [unqF, if_pos h]
  | a :: b :: r => conv => lhs; rw [unqF, if_pos h]
theorem unqF_slash (c a b : UInt8) (r : List UInt8) (h : c.toNat = 92) (h2 : hv a < 16 ∧ hv b < 16) : unqF (c :: a :: b :: r) = (unqF r).map (UInt8.ofNat (16 * hv a + hv b) :: ·) := by
  rw [unqF, if_neg (by omega), if_pos h2]
theorem unqF_none (c a b : UInt8) (r : List UInt8) (h : c.toNat = 92) (h2 : ¬ (hv a < 16 ∧ hv b < 16)) : unqF (c :: a :: b :: r) = none := by
  rw [unqF, if_neg (by omega), if_neg h2]
theorem unqF_short (c : UInt8) (r : List UInt8) (h : c.toNat = 92) (h2 : r.length < 2) : unqF (c :: r) = none := by
  match r, h2 with
  | [], _ => simp [unqF, h]
  | [a], _ => simp [unqF, h]
/-- The text of a word; false: it is none. -/
def unqR (w : List UInt8) : Option (List UInt8) → List UInt8 × Bool
  | some t => (t, quo t == w)
  | none => ([], false)
def unq (w : List UInt8) : List UInt8 × Bool := if w = [45] then ([], true) else unqR w (unqF w)
theorem unqF_qb (c : UInt8) (r : List UInt8) : unqF (qb c ++ r) = (unqF r).map (c :: ·) := by
  unfold qb
  have hc := c.toNat_lt
  split
  · rename_i h
    unfold plainB at h
    simp only [Bool.and_eq_true, decide_eq_true_eq] at h
    exact unqF_plain c r h.2.2.1
  · have e1 := hv_hd (c.toNat / 16) (by omega)
    have e2 := hv_hd (c.toNat % 16) (by omega)
    simp only [List.cons_append, List.nil_append]
    rw [unqF_slash 92 _ _ _ rfl (by omega), e1, e2]
    congr 2
    funext t
    congr 1
    apply UInt8.toNat_inj.1
    rw [UInt8.toNat_ofNat']
    omega
theorem unqF_quo (l : List UInt8) : unqF (l.flatMap qb) = some l := by
  induction l with
  | nil => rfl
  | cons c l ih => rw [List.flatMap_cons, unqF_qb, ih]; rfl
theorem qb_len (c : UInt8) : 1 ≤ (qb c).length ∧ (qb c).length ≤ 3 := by unfold qb; split <;> simp
theorem quo_ne (l : List UInt8) (h : l ≠ []) : l.flatMap qb ≠ [45] := by
  intro e
  match l, h with
  | [c], _ =>
    simp only [List.flatMap_cons, List.flatMap_nil, List.append_nil] at e
    unfold qb at e
    split at e
    · rename_i hp
      simp only [List.cons.injEq, and_true] at e
      subst e
      exact absurd hp (by decide)
    · simp at e
  | c :: d :: r, _ =>
    have h1 := (qb_len c).1
    have h2 := (qb_len d).1
    have := congrArg List.length e
    simp only [List.flatMap_cons, List.length_append, List.length_cons, List.length_nil] at this
    omega
theorem unq_quo (l : List UInt8) : unq (quo l) = (l, true) := by
  unfold unq
  by_cases h : l = []
  · subst h
    simp [quo]
  · have e : quo l = l.flatMap qb := by unfold quo; rw [if_neg h]
    rw [e, if_neg (quo_ne l h), unqF_quo]
    simp [unqR, e]
theorem unqF_len : ∀ (n : Nat) (w t : List UInt8), w.length = n → unqF w = some t → t.length ≤ w.length := by
  intro n
  induction n using Nat.strongRecOn with
  | _ n ih =>
    intro w t hn h
    match w with
    | [] => simp only [unqF, Option.some.injEq] at h; subst h; simp
    | c :: r =>
      by_cases hc : c.toNat = 92
      · match r with
        | [] => rw [unqF_short c [] hc (by simp)] at h; cases h
        | [a] => rw [unqF_short c [a] hc (by simp)] at h; cases h
        | a :: b :: r =>
          by_cases h2 : hv a < 16 ∧ hv b < 16
          · rw [unqF_slash c a b r hc h2] at h
            cases h' : unqF r with
            | none => rw [h'] at h; cases h
            | some u =>
              rw [h'] at h
              simp only [Option.map_some, Option.some.injEq] at h
              subst h
              have := ih r.length (by simp at hn; omega) r u rfl h'
              simp
              omega
          · rw [unqF_none c a b r hc h2] at h; cases h
      · rw [unqF_plain c r hc] at h
        cases h' : unqF r with
        | none => rw [h'] at h; cases h
        | some u =>
          rw [h'] at h
          simp only [Option.map_some, Option.some.injEq] at h
          subst h
          have := ih r.length (by simp at hn; omega) r u rfl h'
          simp
          omega
theorem unq_len (w : List UInt8) : (unq w).1.length ≤ w.length := by
  unfold unq
  split
  · simp
  · cases h : unqF w with
    | some t => exact unqF_len _ w t rfl h
    | none => simp [unqR]

/-! Lines -/
def splitL : List UInt8 → List (List UInt8)
  | [] => [[]]
  | c :: r => if c = 32 then [] :: splitL r else match splitL r with
    | h :: t => (c :: h) :: t
    | [] => [[c]]
abbrev joinW (ws : List (List UInt8)) : List UInt8 := Lib.join ws [32]
theorem joinW_cons (x : List UInt8) (y : List UInt8) (r : List (List UInt8)) : joinW (x :: y :: r) = x ++ 32 :: joinW (y :: r) := by
  unfold joinW
  rw [Lib.join_cons, Lib.join_cons]
  simp [Lib.joinTail]
theorem splitL_ne (s : List UInt8) : splitL s ≠ [] := by
  cases s with
  | nil => simp [splitL]
  | cons c r =>
    unfold splitL
    split
    · simp
    · split <;> simp
theorem splitL_word : ∀ (w : List UInt8), (32 : UInt8) ∉ w → splitL w = [w]
  | [], _ => rfl
  | c :: w, h => by
    have hc : c ≠ 32 := fun e => h (by simp [e])
    have hw : (32 : UInt8) ∉ w := fun e => h (by simp [e])
    unfold splitL
    rw [if_neg hc, splitL_word w hw]
theorem splitL_app : ∀ (w r : List UInt8), (32 : UInt8) ∉ w → splitL (w ++ 32 :: r) = w :: splitL r
  | [], r, _ => by simp [splitL]
  | c :: w, r, h => by
    have hc : c ≠ 32 := fun e => h (by simp [e])
    have hw : (32 : UInt8) ∉ w := fun e => h (by simp [e])
    rw [List.cons_append]
    conv => lhs; unfold splitL
    rw [if_neg hc, splitL_app w r hw]
theorem split_join : ∀ (ws : List (List UInt8)), ws ≠ [] → (∀ w ∈ ws, (32 : UInt8) ∉ w) → splitL (joinW ws) = ws
  | [], h, _ => absurd rfl h
  | [w], _, h => by
    unfold joinW
    rw [Lib.join_one]
    exact splitL_word w (h w (by simp))
  | x :: y :: r, _, h => by
    rw [joinW_cons, splitL_app x _ (h x (by simp)), split_join (y :: r) (by simp) (fun w hw => h w (by simp [hw]))]
theorem no_blank_txt (n : Nat) : (32 : UInt8) ∉ txt n := fun h => by
  have := txtF_dig 19 n 32 h
  simp at this
theorem no_blank_hex (n : Nat) : (32 : UInt8) ∉ hexT n := fun h => by
  have := hexF_all 16 n 32 h
  exact absurd this (by decide)
theorem qb_blank : ∀ c : UInt8, (32 : UInt8) ∉ qb c := fun c h => by
  have hc := c.toNat_lt
  unfold qb at h
  split at h
  · rename_i hp
    simp only [List.mem_cons, List.not_mem_nil, or_false] at h
    subst h
    exact absurd hp (by decide)
  · simp only [List.mem_cons, List.not_mem_nil, or_false] at h
    rcases h with h | h | h
    · cases h
    · have e := hv_hd (c.toNat / 16) (by omega)
      rw [← h] at e
      have : hv 32 = 16 := by decide
      omega
    · have e := hv_hd (c.toNat % 16) (by omega)
      rw [← h] at e
      have : hv 32 = 16 := by decide
      omega
theorem no_blank_quo (l : List UInt8) : (32 : UInt8) ∉ quo l := fun h => by
  unfold quo at h
  split at h
  · simp at h
  · obtain ⟨c, _, hc⟩ := List.mem_flatMap.1 h
    exact qb_blank c hc
theorem joinW_snoc (ws : List (List UInt8)) (h : ws ≠ []) (x : List UInt8) : joinW (ws ++ [x]) = joinW ws ++ 32 :: x := by
  match ws, h with
  | y :: r, _ =>
    unfold joinW
    rw [List.cons_append, Lib.join_cons, Lib.join_cons]
    simp [Lib.joinTail]
end Go.Proofs.YtldjgpnbkbmgoaaGreatDoor
