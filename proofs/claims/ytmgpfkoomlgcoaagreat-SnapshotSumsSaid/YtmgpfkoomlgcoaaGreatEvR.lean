/-
  Regions whose order is drawn: masks, rows, what operations do not depend on.
-/
import Derived.Test.YtmgpfkoomlgcoaaGreatEvQ
namespace Go.Proofs.YtmgpfkoomlgcoaaGreat.Ev

theorem has_lor (m i j : Nat) : has (Nat.lor m (Nat.shiftLeft 1 i)) j = (has m j || decide (j = i)) := by
  unfold has
  rw [show Nat.lor m (Nat.shiftLeft 1 i) = m ||| (1 <<< i) from rfl, Nat.testBit_or, Nat.testBit_shiftLeft]
  congr 1
  by_cases h : j = i
  · subst h; simp
  · by_cases h' : i ≤ j
    · cases hk : j - i with
      | zero => omega
      | succ k => simp [h, h', Nat.testBit_succ]
    · simp [h, h']
theorem has_zero (j : Nat) : has 0 j = false := by simp [has]

theorem ready_t {done : Nat} {r : Row} : ready done r = true ↔ ∀ j, has r.pm j = true → has done j = true := by
  unfold ready has
  rw [show Nat.land r.pm done = r.pm &&& done from rfl]
  constructor
  · intro h j hj
    have h := Nat.eq_of_beq_eq_true h
    have := congrArg (Nat.testBit · j) h
    simp only [Nat.testBit_and] at this
    rw [hj] at this
    simpa using this
  · intro h
    have : r.pm &&& done = r.pm := Nat.eq_of_testBit_eq fun j => by
      rw [Nat.testBit_and]
      cases hj : Nat.testBit r.pm j with
      | false => rfl
      | true => simp [h j hj]
    rw [this]
    exact Nat.beq_refl _

theorem has_predMask (j : Nat) : ∀ l : List Edge, has (predMask l) j = true ↔ ∃ e ∈ l, Region.binds .any e = true ∧ e.on = j
  | [] => by simp [predMask, has_zero]
  | e :: l => by
    simp only [predMask]
    cases hb : Region.binds .any e with
    | false =>
      simp only []
      rw [has_predMask j l]
      constructor
      · rintro ⟨x, h1, h2⟩; exact ⟨x, List.mem_cons_of_mem _ h1, h2⟩
      · rintro ⟨x, h1, h2, h3⟩
        rcases List.mem_cons.1 h1 with rfl | h1
        · rw [hb] at h2; cases h2
        · exact ⟨x, h1, h2, h3⟩
    | true =>
      simp only []
      rw [show Nat.lor (Nat.shiftLeft 1 e.on) (predMask l) = Nat.lor (predMask l) (Nat.shiftLeft 1 e.on) from Nat.or_comm _ _, has_lor, Bool.or_eq_true, has_predMask j l, decide_eq_true_iff]
      constructor
      · rintro (⟨x, h1, h2⟩ | rfl)
        · exact ⟨x, List.mem_cons_of_mem _ h1, h2⟩
        · exact ⟨e, by simp, hb, rfl⟩
      · rintro ⟨x, h1, h2, h3⟩
        rcases List.mem_cons.1 h1 with rfl | h1
        · exact .inr h3.symm
        · exact .inl ⟨x, h1, h2, h3⟩

theorem has_lt {m i j : Nat} (h : Nat.blt m (Nat.shiftLeft 1 i) = true) (hj : has m j = true) : j < i := by
  have h1 : m < 1 <<< i := blt_t h
  rw [Nat.one_shiftLeft] at h1
  have h2 := Nat.ge_two_pow_of_testBit hj
  exact (Nat.pow_lt_pow_iff_right (a := 2) (by omega)).1 (Nat.lt_of_le_of_lt h2 h1)

theorem memN_t : ∀ {l : List Nat} {n : Nat}, memN l n = true ↔ n ∈ l
  | [], n => by simp [memN]
  | x :: l, n => by
    simp only [memN]
    cases hb : Nat.beq x n with
    | true => simp [Nat.eq_of_beq_eq_true hb]
    | false => simp [memN_t, Ne.symm (Nat.ne_of_beq_eq_false hb)]
theorem memN_f {l : List Nat} {n : Nat} (h : memN l n = false) : n ∉ l := fun hm => by rw [memN_t.2 hm] at h; cases h

/-! ### Rows -/
def mkRow (ops : Array Oper) (i : Nat) (o : Oper) : Row := ⟨i, o, predMask o.after.toList, early o.op, o.looksAt ops⟩

theorem rowsFrom_mem {ops : Array Oper} : ∀ {l : List Oper} {i : Nat} {r : Row}, r ∈ rowsFrom ops i l ↔ ∃ k o, l[k]? = some o ∧ r = mkRow ops (i + k) o
  | [], i, r => by simp [rowsFrom]
  | o :: l, i, r => by
    simp only [rowsFrom, List.mem_cons]
    rw [rowsFrom_mem]
    constructor
    · rintro (rfl | ⟨k, p, h1, h2⟩)
      · exact ⟨0, o, rfl, rfl⟩
      · exact ⟨k + 1, p, by simpa using h1, by rw [h2, show i + 1 + k = i + (k + 1) by omega]⟩
    · rintro ⟨k, p, h1, h2⟩
      cases k with
      | zero => simp only [List.getElem?_cons_zero, Option.some.injEq] at h1; subst h1; exact .inl h2
      | succ k => exact .inr ⟨k, p, by simpa using h1, by rw [h2, show i + 1 + k = i + (k + 1) by omega]⟩

structure PairOk (a b : Row) : Prop where
  looks : ∀ d, a.o.dst = some d → d ∈ b.looks → has b.pm a.i = true ∨ (has a.pm b.i = true ∧ a.early = false)
  dst : ∀ d, a.o.dst = some d → b.o.dst = some d → a.early = false ∧ b.early = false

theorem pairOk_t {a b : Row} (h : pairOk a b = true) : PairOk a b := by
  unfold pairOk at h
  cases hd : a.o.dst with
  | none => exact ⟨fun d e _ => by simp [hd] at e, fun d e _ => by simp [hd] at e⟩
  | some d =>
    rw [hd] at h
    simp only [Bool.and_eq_true] at h
    obtain ⟨h1, h2⟩ := h
    refine ⟨fun d' e hm => ?_, fun d' e e' => ?_⟩ <;> (have e := Option.some.inj (hd.symm.trans e); subst e)
    · rw [memN_t.2 hm] at h1
      simpa using h1
    · rw [e'] at h2
      simp only [Nat.beq_refl, Bool.and_eq_true, Bool.not_eq_true'] at h2
      exact ⟨h2.1.2, h2.2⟩

structure RowsOk (ops : Array Oper) (rows : List Row) : Prop where
  row : ∀ r ∈ rows, ops[r.i]? = some r.o ∧ r = mkRow ops r.i r.o
  all : ∀ i o, ops[i]? = some o → mkRow ops i o ∈ rows
  lt : ∀ r ∈ rows, ∀ j, has r.pm j = true → j < r.i
  self : ∀ r ∈ rows, r.early = true → ∀ d, r.o.dst = some d → d ∉ r.looks
  pair : ∀ r ∈ rows, ∀ q ∈ rows, r.i ≠ q.i → PairOk r q

theorem RowsOk.eq {ops : Array Oper} {rows : List Row} (h : RowsOk ops rows) {r q : Row} (hr : r ∈ rows) (hq : q ∈ rows) (e : r.i = q.i) : r = q := by
  obtain ⟨h1, h2⟩ := h.row r hr
  obtain ⟨h3, h4⟩ := h.row q hq
  rw [e, h3] at h1
  rw [h2, h4, e, Option.some.inj h1]

theorem indep_ok : ∀ {l : List Row}, indep l = true → (∀ r ∈ l, Nat.blt r.pm (Nat.shiftLeft 1 r.i) = true ∧ selfOk r = true) ∧ ∀ r ∈ l, ∀ q ∈ l, r.i ≠ q.i → pairOk r q = true
  | [], _ => ⟨by simp, by simp⟩
  | x :: l, h => by
    simp only [indep, Bool.and_eq_true, List.all_eq_true] at h
    obtain ⟨⟨⟨h1, h2⟩, h3⟩, h4⟩ := h
    obtain ⟨i1, i2⟩ := indep_ok h4
    refine ⟨fun r hr => ?_, fun r hr q hq hne => ?_⟩
    · rcases List.mem_cons.1 hr with rfl | hr
      · exact ⟨h1, h2⟩
      · exact i1 r hr
    · rcases List.mem_cons.1 hr with er | hr <;> rcases List.mem_cons.1 hq with eq | hq
      · exact absurd (by rw [er, eq]) hne
      · rw [er]; exact (h3 q hq).1
      · rw [eq]; exact (h3 r hr).2
      · exact i2 r hr q hq hne

theorem rows_ok {ops : Array Oper} (h : indep (rowsFrom ops 0 ops.toList) = true) : RowsOk ops (rowsFrom ops 0 ops.toList) := by
  obtain ⟨h1, h2⟩ := indep_ok h
  refine ⟨fun r hr => ?_, fun i o ho => ?_, fun r hr j hj => has_lt (h1 r hr).1 hj, fun r hr he d hd hm => ?_, fun r hr q hq hne => pairOk_t (h2 r hr q hq hne)⟩
  · obtain ⟨k, o, hk, rfl⟩ := rowsFrom_mem.1 hr
    refine ⟨?_, rfl⟩
    simp only [mkRow, Nat.zero_add]
    simpa using hk
  · exact rowsFrom_mem.2 ⟨i, o, by simpa using ho, by rw [Nat.zero_add]⟩
  · have := (h1 r hr).2
    unfold selfOk at this
    rw [he, hd] at this
    simp only [Bool.not_eq_true'] at this
    exact memN_f this hm

/-! ### What operations do not depend on -/
theorem evOp_pure {E : Env} {t : Tmps} {σ : AS} {op : Op} {v : AV} (σ' : AS) (h : evOp E t σ op = some (.pure v)) : evOp E t σ' op = some (.pure v) := by
  cases op <;> simp only [evOp] at h ⊢ <;> first | exact h | skip
  case convert src dst x =>
    split at h
    · rename_i y hy
      unfold convA at h ⊢
      (repeat' split at h) <;> first | cases h | skip
      all_goals first | (simp_all; done) | skip
      all_goals (obtain ⟨_, _, e⟩ := Option.map_eq_some_iff.1 h; cases e)
    · cases h
  case call c =>
    split at h
    · cases h
    · rename_i as ha
      split at h
      · exact h
      · rename_i b hb
        unfold builtinA at h ⊢
        (repeat' split at h) <;> first | cases h | (simp_all; done) | (obtain ⟨_, _, e⟩ := Option.map_eq_some_iff.1 h; cases e) | skip
      · exact h
  all_goals
    (repeat' split at h) <;> first | cases h | (obtain ⟨_, _, e⟩ := Option.map_eq_some_iff.1 h; cases e)

theorem evOp_new {E : Env} {t : Tmps} {σ : AS} {op : Op} {ob : AObj} {k : NewK} (σ' : AS) (h : evOp E t σ op = some (.new ob k)) : evOp E t σ' op = some (.new ob k) := by
  cases op <;> simp only [evOp] at h ⊢ <;> first | exact h | skip
  case convert src dst x =>
    split at h
    · rename_i y hy
      unfold convA at h
      (repeat' split at h) <;> first | cases h | (obtain ⟨_, _, e⟩ := Option.map_eq_some_iff.1 h; cases e)
    · cases h
  case call c =>
    split at h
    · cases h
    · rename_i as ha
      split at h
      · unfold fnCall at h
        (repeat' split at h) <;> cases h
      · rename_i b hb
        unfold builtinA at h
        (repeat' split at h) <;> first | cases h | (obtain ⟨_, _, e⟩ := Option.map_eq_some_iff.1 h; cases e)
      · (repeat' split at h) <;> cases h
  all_goals
    (repeat' split at h) <;> first | cases h | (obtain ⟨_, _, e⟩ := Option.map_eq_some_iff.1 h; cases e)

theorem evOp_early {E : Env} {t : Tmps} {σ : AS} {op : Op} {out : Out} (he : early op = true) (h : evOp E t σ op = some out) :
    (∃ v, out = .pure v) ∨ (∃ v, out = .read v) ∨ ∃ ob k, out = .new ob k := by
  cases op <;> simp only [early, Bool.false_eq_true] at he <;> simp only [evOp] at h
  case convert src dst x =>
    split at h
    · rename_i y hy
      unfold convA at h
      (repeat' split at h) <;> first
        | (simp at h; done)
        | (simp only [Option.some.injEq] at h; subst h; first | exact .inl ⟨_, rfl⟩ | exact .inr (.inl ⟨_, rfl⟩) | exact .inr (.inr ⟨_, _, rfl⟩))
        | (obtain ⟨_, _, rfl⟩ := Option.map_eq_some_iff.1 h; exact .inr (.inl ⟨_, rfl⟩))
    · cases h
  case call c =>
    split at h
    · cases h
    · rename_i as ha
      split at he
      all_goals first | cases he | skip
      all_goals (rename_i hb; simp only [hb] at h; unfold builtinA at h; (repeat' split at h) <;> first | cases h | (obtain ⟨_, _, rfl⟩ := Option.map_eq_some_iff.1 h; first | exact .inl ⟨_, rfl⟩ | exact .inr (.inl ⟨_, rfl⟩)) | (simp at *; done))
  all_goals
    (repeat' split at h) <;> first
      | (simp at h; done)
      | (simp only [Option.some.injEq] at h; subst h; first | exact .inl ⟨_, rfl⟩ | exact .inr (.inl ⟨_, rfl⟩) | exact .inr (.inr ⟨_, _, rfl⟩))
      | (obtain ⟨_, _, rfl⟩ := Option.map_eq_some_iff.1 h; first | exact .inl ⟨_, rfl⟩ | exact .inr (.inl ⟨_, rfl⟩) | exact .inr (.inr ⟨_, _, rfl⟩))
      | (simp only [Option.some.injEq] at h; subst h; first | exact .inl ⟨_, rfl⟩ | exact .inr (.inl ⟨_, rfl⟩) | exact .inr (.inr ⟨_, _, rfl⟩))

end Go.Proofs.YtmgpfkoomlgcoaaGreat.Ev
