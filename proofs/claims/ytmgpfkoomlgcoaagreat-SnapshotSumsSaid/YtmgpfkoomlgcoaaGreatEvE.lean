/-
  What the evaluator's operations give: arithmetic, comparisons, slicing, keys.
-/
import Derived.Test.YtmgpfkoomlgcoaaGreatEvD
import Derived.Laws.BytesString
namespace Go.Proofs.YtmgpfkoomlgcoaaGreat.Ev

theorem semVal_some {s : Sem Value} {v : AV} (h : semVal s = some v) : ∃ x, s = .pure x ∧ v = .lit x := by
  unfold semVal at h
  split at h
  · simp only [Option.some.injEq] at h; exact ⟨_, rfl, h.symm⟩
  · simp at h

theorem natOf_some {γ : Gam} {v : AV} {n : Nat} {x : Value} (h : natOf v = some n) (hc : Conc γ v x) : ∃ k, x = .int k n := by
  unfold natOf at h
  split at h
  · rename_i k m
    simp only [Option.some.injEq] at h
    subst h
    rw [conc_lit_iff] at hc
    exact ⟨k, hc⟩
  · simp at h

section
variable {P : Program} {E : Env} (hE : EnvOk P E) {γ : Gam} {σ : AS} {w : World}
include hE

omit hE in
theorem scalarEq_ok {a b : Value} {c : Bool} (h : scalarEq a b = some c) : (∃ x y, a = .bool x ∧ b = .bool y) ∨ (∃ k x y, a = .int k x ∧ b = .int k y) ∨ (∃ x y, a = .string x ∧ b = .string y) := by
  unfold scalarEq at h
  split at h
  · exact .inl ⟨_, _, rfl, rfl⟩
  · rename_i k a k' b
    by_cases hk : k = k'
    · subst hk; exact .inr (.inl ⟨_, _, _, rfl, rfl⟩)
    · rw [if_neg hk] at h; cases h
  · exact .inr (.inr ⟨_, _, rfl, rfl⟩)
  · cases h

omit hE in
theorem flatEq_lits : ∀ {l m : List AV} {b : Bool}, flatEq l m = some b → (∃ xs : List Value, l = xs.map .lit) ∧ ∃ ys : List Value, m = ys.map .lit
  | [], [], _, _ => ⟨⟨[], rfl⟩, ⟨[], rfl⟩⟩
  | [], _ :: _, _, h => by simp [flatEq] at h
  | .lit a :: l, [], _, h => by simp [flatEq] at h
  | .lit a :: l, .lit b :: m, c, h => by
    simp only [flatEq] at h
    split at h
    · rename_i x y hx hy
      obtain ⟨⟨xs, e1⟩, ys, e2⟩ := flatEq_lits hy
      exact ⟨⟨a :: xs, by simp [e1]⟩, ⟨b :: ys, by simp [e2]⟩⟩
    · cases h
  | .lit a :: l, .ptr .. :: m, _, h => by simp [flatEq] at h
  | .lit a :: l, .slice .. :: m, _, h => by simp [flatEq] at h
  | .lit a :: l, .map .. :: m, _, h => by simp [flatEq] at h
  | .lit a :: l, .func .. :: m, _, h => by simp [flatEq] at h
  | .lit a :: l, .iface .. :: m, _, h => by simp [flatEq] at h
  | .lit a :: l, .agg .. :: m, _, h => by simp [flatEq] at h
  | .lit a :: l, .tuple .. :: m, _, h => by simp [flatEq] at h
  | .ptr .. :: l, _, _, h => by simp [flatEq] at h
  | .slice .. :: l, _, _, h => by simp [flatEq] at h
  | .map .. :: l, _, _, h => by simp [flatEq] at h
  | .func .. :: l, _, _, h => by simp [flatEq] at h
  | .iface .. :: l, _, _, h => by simp [flatEq] at h
  | .agg .. :: l, _, _, h => by simp [flatEq] at h
  | .tuple .. :: l, _, _, h => by simp [flatEq] at h

omit hE in
theorem concs_lits_eq {γ : Gam} : ∀ {xs ys : List Value}, Concs γ (xs.map .lit) ys → ys = xs
  | [], _, h => by simpa [Concs] using h
  | x :: xs, _, h => by
    simp only [List.map_cons, Concs] at h
    obtain ⟨y, ys, rfl, h1, h2⟩ := h
    rw [conc_lit_iff] at h1
    rw [h1, concs_lits_eq h2]

/-- equality of a flat struct or array -/
theorem flat_ok {t : TypeId} {r : TyRow} {n : Nat} (hr : E.ty t = some r) (hf : r.flat = some n) {a b : List AV} {c : Bool} (ha : a.length = n) (hb : b.length = n) (hk : fits r.kinds a = true)
    (h : flatEq a b = some c) {x y : Array Value} (hx : Concs γ a x.toList) (hy : Concs γ b y.toList) :
    (Op.equalIn Op.maxDepth t (.agg x) (.agg y)).run P w = .ok c w := by
  obtain ⟨⟨xs, rfl⟩, ys, rfl⟩ := flatEq_lits h
  have e1 := concs_lits_eq hx
  have e2 := concs_lits_eq hy
  have := hE.eq t r n hr hf xs ys c w (by simpa using ha) (by simpa using hb) hk h
  rw [← e1, ← e2] at this
  simpa using this

theorem eqOf_ok {t : TypeId} {a b : AV} {c : Bool} (h : eqOf E t a b = some c) {x y : Value} (hx : Conc γ a x) (hy : Conc γ b y) :
    (Op.equal t x y).run P w = .ok c w := by
  unfold eqOf at h
  cases hr : E.ty t with
  | none => rw [hr] at h; cases h
  | some r =>
    rw [hr] at h
    simp only [] at h
    unfold Op.equal
    have hfl : ∀ n, r.flat = some n → ∀ {a b : List AV} {c : Bool}, a.length = n → b.length = n → fits r.kinds a = true → flatEq a b = some c → ∀ {x y : Array Value}, Concs γ a x.toList → Concs γ b y.toList →
        (Op.equalIn Op.maxDepth t (.agg x) (.agg y)).run P w = .ok c w := fun n hf _ _ _ ha hb hk h _ _ hx hy => flat_ok hE hr hf ha hb hk h hx hy
    have hmax : Op.maxDepth = 9999 + 1 := rfl
    rw [hmax] at hfl ⊢
    generalize 9999 = d at hfl ⊢
    split at h
    case h_13 => cases h
    case h_12 =>
      simp only [Conc] at hx hy
      obtain ⟨x, rfl, hx⟩ := hx
      obtain ⟨y, rfl, hy⟩ := hy
      split at h
      · rename_i n hf
        split at h
        · rename_i hn
          rw [Bool.and_eq_true, Bool.and_eq_true] at hn
          exact hfl n hf (Nat.eq_of_beq_eq_true hn.1.1) (Nat.eq_of_beq_eq_true hn.1.2) hn.2 h hx hy
        · cases h
      · cases h
    all_goals
      rename_i hd
      simp only [Option.some.injEq] at h
      subst h
      simp only [Conc] at hx hy
      first | subst hx | obtain ⟨_, rfl, _⟩ := hx | obtain ⟨_, _, rfl, _⟩ := hx
      first | subst hy | obtain ⟨_, rfl, _⟩ := hy | obtain ⟨_, _, rfl, _⟩ := hy
      simp only [Op.equalIn, Sem.run_bind, run_und hE hr w, Result.andThen_ok, hd]
      rfl

theorem guard_ok {op : BinOp} {t : TypeId} {ox oy : Operand} {a b : AV} {c : Bool} (h : eqOf E t a b = some c) {x y : Value} (hx : Conc γ a x) (hy : Conc γ b y) :
    (eqGuard op t ox oy x y).run P w = .ok () w := by
  unfold eqOf at h
  cases hr : E.ty t with
  | none => rw [hr] at h; cases h
  | some r =>
    rw [hr] at h
    simp only [] at h
    unfold eqGuard
    split at h
    case h_13 => cases h
    case h_12 =>
      simp only [Conc] at hx hy
      obtain ⟨x, rfl, hx⟩ := hx
      obtain ⟨y, rfl, hy⟩ := hy
      split at h
      · rename_i n hf
        have hg := hE.guard t r n hr hf
        split <;> simp [hg]
      · cases h
    all_goals
      simp only [Conc] at hx hy
      first | subst hx | obtain ⟨_, rfl, _⟩ := hx | obtain ⟨_, _, rfl, _⟩ := hx
      first | subst hy | obtain ⟨_, rfl, _⟩ := hy | obtain ⟨_, _, rfl, _⟩ := hy
      split <;> rfl

theorem binOp_eql {t : TypeId} {a b : AV} {c : Bool} (h : eqOf E t a b = some c) {x y : Value} (hx : Conc γ a x) (hy : Conc γ b y) :
    (binOp .eql t x y).run P w = .ok (.bool c) w ∧ (binOp .neq t x y).run P w = .ok (.bool (!c)) w := by
  have he := eqOf_ok hE (w := w) h hx hy
  unfold eqOf at h
  cases hr : E.ty t with
  | none => rw [hr] at h; cases h
  | some r =>
    rw [hr] at h
    simp only [] at h
    split at h
    case h_13 => cases h
    all_goals
      simp only [Conc] at hx hy
      first | subst hx | obtain ⟨_, rfl, _⟩ := hx | obtain ⟨_, _, rfl, _⟩ := hx
      first | subst hy | obtain ⟨_, rfl, _⟩ := hy | obtain ⟨_, _, rfl, _⟩ := hy
      simp only [binOp, Sem.run_bind, he, Result.andThen_ok, Sem.run_pure, and_self]

theorem binA_ok {op : BinOp} {t : TypeId} {ox oy : Operand} {a b v : AV} (h : binA E op t a b = some v) {x y : Value} (hx : Conc γ a x) (hy : Conc γ b y) :
    ∃ u, (do eqGuard op t ox oy x y; binOp op t x y : Sem Value).run P w = .ok u w ∧ Conc γ v u := by
  unfold binA at h
  split at h
  · rename_i k1 n1 k2 n2
    rw [conc_lit_iff] at hx hy; subst hx hy
    obtain ⟨u, hu, rfl⟩ := semVal_some h
    refine ⟨u, ?_, conc_lit γ u⟩
    have : (eqGuard op t ox oy (.int k1 n1) (.int k2 n2)) = pure () := by unfold eqGuard; split <;> rfl
    rw [this, hu]
    rfl
  · rename_i s1 s2
    rw [conc_lit_iff] at hx hy; subst hx hy
    obtain ⟨u, hu, rfl⟩ := semVal_some h
    refine ⟨u, ?_, conc_lit γ u⟩
    have : (eqGuard op t ox oy (.string s1) (.string s2)) = pure () := by unfold eqGuard; split <;> rfl
    rw [this, hu]
    rfl
  · split at h
    · obtain ⟨c, hc, rfl⟩ := Option.map_eq_some_iff.1 h
      refine ⟨_, ?_, conc_lit γ _⟩
      simp only [Sem.run_bind, guard_ok hE hc hx hy, Result.andThen_ok, (binOp_eql hE hc hx hy).1]
    · obtain ⟨c, hc, rfl⟩ := Option.map_eq_some_iff.1 h
      refine ⟨_, ?_, conc_lit γ _⟩
      simp only [Sem.run_bind, guard_ok hE hc hx hy, Result.andThen_ok, (binOp_eql hE hc hx hy).2]
    · cases h

omit hE in
theorem unA_ok {op : UnOp} {a v : AV} (h : unA op a = some v) {x : Value} (hx : Conc γ a x) : ∃ u, (Op.unary op x).run P w = .ok u w ∧ Conc γ v u := by
  unfold unA at h
  split at h
  · rw [conc_lit_iff] at hx; subst hx
    obtain ⟨u, hu, rfl⟩ := semVal_some h
    exact ⟨u, by rw [hu]; rfl, conc_lit γ u⟩
  · cases h

/-! ### Bounds -/
def OptRel (γ : Gam) : Option AV → Option Value → Prop
  | none, none => True
  | some v, some x => Conc γ v x
  | _, _ => False

omit hE in
theorem bound_ok {v : AV} {x : Value} {n y : Nat} {code : BoundsCode} (hn : natOf v = some n) (hx : Conc γ v x) (hle : n ≤ y) : (Instr.sliceBound x y code).run P w = .ok n w := by
  obtain ⟨k, rfl⟩ := natOf_some hn hx
  unfold Instr.sliceBound
  have : (0 ≤ (n : Int) ∧ (n : Int) ≤ (y : Int)) := ⟨by omega, by omega⟩
  simp [asIntOf, this]

omit hE in
theorem natLe_ok {v : AV} {x : Value} {n top y : Nat} {code : BoundsCode} (hn : natLe v top = some n) (hx : Conc γ v x) (hle : top ≤ y) : (Instr.sliceBound x y code).run P w = .ok n w ∧ n ≤ top := by
  unfold natLe at hn
  split at hn
  · rename_i k hk
    split at hn
    · rename_i hb
      simp only [Option.some.injEq] at hn
      subst hn
      have hb := Nat.le_of_ble_eq_true hb
      exact ⟨bound_ok hk hx (Nat.le_trans hb hle), hb⟩
    · cases hn
  · cases hn

omit hE in
theorem bounds_ok {isSlice : Bool} {len c : Nat} {cap : Option Nat} {lo hi mx : Option AV} {l h : Nat} {m : Option Nat} (hb : boundsA len cap lo hi mx = some (l, h, m))
    (hc : cap = some c ∨ (cap = none ∧ len ≤ c)) (hle : len ≤ c) {lo' hi' mx' : Option Value} (h1 : OptRel γ lo lo') (h2 : OptRel γ hi hi') (h3 : OptRel γ mx mx') :
    ∃ mm, (Instr.sliceBounds isSlice len c lo' hi' mx').run P w = .ok (l, h, mm) w ∧ l ≤ h ∧ ((∃ k, m = some k ∧ mm = k) ∨ (m = none ∧ cap = none ∧ mm = c)) ∧ h ≤ mm ∧ mm ≤ c := by
  unfold boundsA at hb
  have hlc : topOf len cap ≤ c := by
    rcases hc with rfl | ⟨rfl, hle⟩
    · exact Nat.le_refl _
    · exact hle
  cases hm' : endA len cap mx with
  | none => rw [hm'] at hb; cases hb
  | some m' =>
    rw [hm'] at hb
    simp only [] at hb
    have hmx : ∃ mm, ((match mx' with
        | some v => Instr.sliceBound v c (if isSlice then .slice3Acap else .slice3Alen)
        | none => pure c : Sem Nat).run P w = .ok mm w) ∧ mm ≤ c ∧ ((∃ k, m' = some k ∧ mm = k) ∨ (m' = none ∧ cap = none ∧ mm = c)) ∧ (mx = none → mm = c) := by
      cases mx with
      | none =>
        cases mx' with
        | some _ => exact h3.elim
        | none =>
          simp only [endA, Option.some.injEq] at hm'
          subst hm'
          refine ⟨c, rfl, Nat.le_refl _, ?_, fun _ => rfl⟩
          rcases hc with e | ⟨e, _⟩
          · exact .inl ⟨c, e, rfl⟩
          · exact .inr ⟨e, e, rfl⟩
      | some v =>
        cases mx' with
        | none => exact h3.elim
        | some x =>
          simp only [endA] at hm'
          split at hm'
          · rename_i k hk
            simp only [Option.some.injEq] at hm'
            subst hm'
            have := natLe_ok (P := P) (w := w) (code := if isSlice then .slice3Acap else .slice3Alen) hk h3 hlc
            exact ⟨k, this.1, Nat.le_trans this.2 hlc, .inl ⟨k, rfl, rfl⟩, fun e => by cases e⟩
          · cases hm'
    obtain ⟨mm, hmr, hmc, hmm, hmn⟩ := hmx
    have htop : topOf len m' ≤ mm := by
      rcases hmm with ⟨k, rfl, rfl⟩ | ⟨rfl, hn, rfl⟩
      · exact Nat.le_refl _
      · rw [hn] at hlc; exact hlc
    cases hh' : highA len m' hi mx with
    | none => rw [hh'] at hb; cases hb
    | some h' =>
      rw [hh'] at hb
      simp only [] at hb
      have hhx : ((match hi', mx' with
          | some v, some _ => Instr.sliceBound v mm .slice3B
          | some v, none => Instr.sliceBound v mm (if isSlice then .sliceAcap else .sliceAlen)
          | none, none => pure len
          | none, some _ => stuck "Slice: max without high" : Sem Nat).run P w = .ok h' w) ∧ h' ≤ mm := by
        cases hi with
        | some v =>
          cases hi' with
          | none => exact h2.elim
          | some x =>
            simp only [highA] at hh'
            cases mx' with
            | none =>
              have := natLe_ok (P := P) (w := w) (code := if isSlice then .sliceAcap else .sliceAlen) hh' h2 htop
              exact ⟨this.1, Nat.le_trans this.2 htop⟩
            | some _ =>
              have := natLe_ok (P := P) (w := w) (code := .slice3B) hh' h2 htop
              exact ⟨this.1, Nat.le_trans this.2 htop⟩
        | none =>
          cases hi' with
          | some _ => exact h2.elim
          | none =>
            cases mx with
            | some _ => simp [highA] at hh'
            | none =>
              cases mx' with
              | some _ => exact h3.elim
              | none =>
                simp only [highA, Option.some.injEq] at hh'
                subst hh'
                exact ⟨rfl, by rw [hmn rfl]; exact hle⟩
      obtain ⟨hhr, hhm⟩ := hhx
      cases hl' : lowA h' lo with
      | none => rw [hl'] at hb; cases hb
      | some l' =>
        rw [hl'] at hb
        simp only [Option.some.injEq, Prod.mk.injEq] at hb
        obtain ⟨rfl, rfl, rfl⟩ := hb
        have hlx : ((match lo' with
            | some v => Instr.sliceBound v h' (if mx'.isSome then .slice3C else .sliceB)
            | none => pure 0 : Sem Nat).run P w = .ok l' w) ∧ l' ≤ h' := by
          cases lo with
          | some v =>
            cases lo' with
            | none => exact h1.elim
            | some x =>
              simp only [lowA] at hl'
              exact natLe_ok hl' h1 (Nat.le_refl _)
          | none =>
            cases lo' with
            | some _ => exact h1.elim
            | none =>
              simp only [lowA, Option.some.injEq] at hl'
              subst hl'
              exact ⟨rfl, Nat.zero_le _⟩
        refine ⟨mm, ?_, hlx.2, hmm, hhm, hmc⟩
        unfold Instr.sliceBounds
        clear hh' hm' hl'
        cases mx' <;> cases hi' <;> cases lo' <;> simp only [Sem.run_pure, Result.ok.injEq, and_true] at hmr hhr hlx <;>
          first
            | (simp only [Sem.run_bind, hmr, hhr, hlx.1, Result.andThen_ok, Sem.run_pure]; done)
            | (subst hmr; simp only [Sem.run_bind, hhr, hlx.1, Result.andThen_ok, Sem.run_pure]; done)
            | (subst hmr hhr; simp only [Sem.run_bind, hlx.1, Result.andThen_ok, Sem.run_pure]; done)
            | (simp only [Sem.run_bind, hmr, hhr, hlx.1, Result.andThen_ok, Sem.run_pure]; rfl)
            | trace_state

end
end Go.Proofs.YtmgpfkoomlgcoaaGreat.Ev
