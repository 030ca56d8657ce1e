/-
  The evaluator's relation to the model's worlds, and what each operation does: values, reads.
-/
import Derived.Test.YtmgpfkoomlgcoaaGreatEvB
namespace Go.Proofs.YtmgpfkoomlgcoaaGreat.Ev

def EntRel (γ : Gam) : List (AV × AV × Nat) → List MapEntry → Prop
  | [], l => l = []
  | (k, v, b) :: es, l => ∃ k' v' rest, l = ⟨k', v', b⟩ :: rest ∧ Conc γ k k' ∧ Conc γ v v' ∧ EntRel γ es rest

def ObjRel (γ : Gam) (ob : AObj) (p : Place) (w : World) : Prop :=
  match ob with
  | .cells l elem => ∃ c, w.heap[p.block]? = some (.cells c elem (0, 0)) ∧ c.size = p.top ∧ p.base + l.length ≤ p.top ∧ ∀ i v, l[i]? = some v → ∃ x, c[p.base + i]? = some x ∧ Conc γ v x
  | .map es clock => ∃ es' : Array MapEntry, w.heap[p.block]? = some (.map es' clock) ∧ EntRel γ es es'.toList
  | .iter m since seen stepped => p.base = 0 ∧ ∃ r, w.heap[p.block]? = some (.mapIter (some r) since seen.toArray stepped) ∧ mapP γ m r
  | .dead => True

structure Rel (γ : Gam) (σ : AS) (w : World) : Prop where
  dom : ∀ o, σ.next ≤ o → γ o = none
  obj : ∀ o p, γ o = some (some p) → ∃ ob, σ.heap.get o = some ob ∧ ObjRel γ ob p w
  gone : ∀ o, γ o = some none → σ.heap.get o = some .dead
  inj : ∀ o o' p p', γ o = some (some p) → γ o' = some (some p') → p.block = p'.block → o = o'
  lim : σ.next ≤ lim

structure Step (γ : Gam) (σ : AS) (γ' : Gam) (σ' : AS) : Prop where
  ext : Ext γ γ'
  new : ∀ o, o < σ.next → γ o = none → γ' o = none
  le : σ.next ≤ σ'.next
  same : ∀ o, o < σ.next → γ o = none → σ'.heap.get o = σ.heap.get o

theorem Step.refl (γ : Gam) (σ : AS) : Step γ σ γ σ := ⟨.refl γ, fun _ _ h => h, Nat.le_refl _, fun _ _ _ => rfl⟩
theorem Step.trans {γ γ1 γ2 : Gam} {σ σ1 σ2 : AS} (h : Step γ σ γ1 σ1) (h' : Step γ1 σ1 γ2 σ2) : Step γ σ γ2 σ2 :=
  ⟨h.ext.trans h'.ext, fun o ho hg => h'.new o (Nat.lt_of_lt_of_le ho h.le) (h.new o ho hg), Nat.le_trans h.le h'.le,
    fun o ho hg => (h'.same o (Nat.lt_of_lt_of_le ho h.le) (h.new o ho hg)).trans (h.same o ho hg)⟩

theorem Rel.find {γ : Gam} {σ : AS} {w : World} (h : Rel γ σ w) {o : Nat} {ob : AObj} (hg : σ.heap.get o = some ob) (hd : ob ≠ .dead) (hn : γ o ≠ none) :
    ∃ p, γ o = some (some p) ∧ ObjRel γ ob p w := by
  cases hp : γ o with
  | none => exact absurd hp hn
  | some q =>
    cases q with
    | none =>
      have := h.gone o hp
      rw [hg] at this
      exact absurd (Option.some.inj this) hd
    | some p =>
      obtain ⟨ob', h1, h2⟩ := h.obj o p hp
      rw [hg] at h1
      cases h1
      exact ⟨p, rfl, h2⟩

theorem atP.ne {γ : Gam} {o off : Nat} {a : Addr} (h : atP γ o off a) : γ o ≠ none := fun e => by unfold atP at h; rw [e] at h; exact h
theorem mapP.ne {γ : Gam} {o r : Nat} (h : mapP γ o r) : γ o ≠ none := fun e => by unfold mapP at h; rw [e] at h; exact h
theorem atP.at {γ : Gam} {o off : Nat} {a : Addr} {p : Place} (h : atP γ o off a) (hp : γ o = some (some p)) : a = ⟨p.block, p.base + off, none⟩ := by
  unfold atP at h; rw [hp] at h; exact h
theorem mapP.at {γ : Gam} {o r : Nat} {p : Place} (h : mapP γ o r) (hp : γ o = some (some p)) : r = p.block := by
  unfold mapP at h; rw [hp] at h; exact h

/-- What the environment tells is so. -/
structure EnvOk (P : Program) (E : Env) : Prop where
  info : ∀ t r, E.ty t = some r → ∀ w, (typeInfo t).run P w = .ok r.info w
  und : ∀ t r, E.ty t = some r → P.underlying t = some r.und
  fn : ∀ f fn, E.fn f = some fn → P.funcs[f]? = some fn ∧ ∀ args w, (callFunc f args).run P w = .ok (.enter f args) w
  wide : P.follows .mixedOrders = true
  guard : ∀ t r n, E.ty t = some r → r.flat = some n → P.eqGuardType P.depth t = false
  eq : ∀ t r n, E.ty t = some r → r.flat = some n → ∀ (xs ys : List Value) b w, xs.length = n → ys.length = n → fits r.kinds (xs.map .lit) = true → flatEq (xs.map .lit) (ys.map .lit) = some b →
    (Op.equalIn Op.maxDepth t (.agg xs.toArray) (.agg ys.toArray)).run P w = .ok b w
  key : ∀ t r n k e, E.ty t = some r → r.flat = some n → r.und = .array k e → ∀ (xs : List Value) b w, xs.length = n → (Instr.checkKey b 10000 t (.agg xs.toArray)).run P w = .ok () w

section
variable {P : Program} {E : Env} (hE : EnvOk P E) {t : TypeId} {r : TyRow} (h : E.ty t = some r) (w : World)
include hE h
theorem run_und : (underlying t).run P w = .ok r.und w := run_underlying (hE.und t r h) w
theorem run_info : (typeInfo t).run P w = .ok r.info w := hE.info t r h w
theorem run_size : (Go.sizeOf t).run P w = .ok r.info.size w := by simp [Go.sizeOf, run_info hE h]
theorem run_zero {z : Value} (hz : r.info.zero = some z) : (zeroValue t).run P w = .ok z w := by simp [zeroValue, run_info hE h, hz]
theorem run_agg : (isAgg t).run P w = .ok (isAggD r.und) w := by
  unfold isAgg
  simp only [Sem.run_bind, run_und hE h, Result.andThen_ok]
  cases r.und <;> rfl
end

/-! ### Operands -/
structure ConcT (γ : Gam) (n : Nat) (t : Tmps) (a : Act) : Prop where
  size : n ≤ a.tmps.size
  defers : a.defers = []
  get : ∀ i v, t.get i = some v → ∃ x, a.tmps[i]? = some x ∧ Conc γ v x

theorem concs_lits (γ : Gam) : ∀ l : List Value, Concs γ (l.map .lit) l
  | [] => by simp [Concs]
  | v :: l => by
    simp only [List.map_cons, Concs]
    exact ⟨v, l, rfl, rfl, concs_lits γ l⟩
theorem conc_lit (γ : Gam) (v : Value) : Conc γ (.lit v) v := by simp [Conc]
theorem conc_lit_iff {γ : Gam} {v x : Value} : Conc γ (.lit v) x ↔ x = v := by simp [Conc]
theorem conc_ofValue (γ : Gam) (v : Value) : Conc γ (ofValue v) v := by
  unfold ofValue
  split
  · simp only [Conc]; exact ⟨_, rfl, concs_lits γ _⟩
  · exact conc_lit γ _

/-- What the walk knows of operands. -/
def OpRel (γ : Gam) (t : Tmps) (ρ : Operand → Value) : Prop := ∀ x v, opnd t x = some v → Conc γ v (ρ x)

theorem ConcT.opnd {γ : Gam} {n : Nat} {t : Tmps} {a : Act} (h : ConcT γ n t a) : OpRel γ t a.eval := by
  intro x v hv
  cases x with
  | tmp i =>
    obtain ⟨y, hy, hc⟩ := h.get i v hv
    simp only [Act.eval, Array.getD_eq_getD_getElem?, hy, Option.getD_some]
    exact hc
  | const c => simp only [Go.Proofs.YtmgpfkoomlgcoaaGreat.Ev.opnd, Option.some.injEq] at hv; subst hv; exact conc_ofValue γ c
  | global g => simp [Go.Proofs.YtmgpfkoomlgcoaaGreat.Ev.opnd] at hv
  | func f => simp only [Go.Proofs.YtmgpfkoomlgcoaaGreat.Ev.opnd, Option.some.injEq] at hv; subst hv; exact conc_lit γ _

theorem concs_length {γ : Gam} : ∀ {l : List AV} {xs : List Value}, Concs γ l xs → xs.length = l.length
  | [], _, h => by simp only [Concs] at h; simp [h]
  | v :: l, _, h => by
    simp only [Concs] at h
    obtain ⟨x, xs, rfl, _, h2⟩ := h
    simp [concs_length h2]
theorem concs_get {γ : Gam} : ∀ {l : List AV} {xs : List Value}, Concs γ l xs → ∀ (i : Nat) (v : AV), l[i]? = some v → ∃ x, xs[i]? = some x ∧ Conc γ v x
  | [], _, _, i, v, hv => by simp at hv
  | u :: l, _, h, i, v, hv => by
    simp only [Concs] at h
    obtain ⟨x, xs, rfl, h1, h2⟩ := h
    cases i with
    | zero => simp only [List.getElem?_cons_zero, Option.some.injEq] at hv; subst hv; exact ⟨x, rfl, h1⟩
    | succ i => simpa using concs_get h2 i v (by simpa using hv)
theorem concs_of {γ : Gam} : ∀ {l : List AV} {xs : List Value}, xs.length = l.length → (∀ (i : Nat) (v : AV), l[i]? = some v → ∃ x, xs[i]? = some x ∧ Conc γ v x) → Concs γ l xs
  | [], [], _, _ => by simp [Concs]
  | [], _ :: _, h, _ => by simp at h
  | _ :: _, [], h, _ => by simp at h
  | u :: l, x :: xs, h, hg => by
    simp only [Concs]
    refine ⟨x, xs, rfl, ?_, concs_of (by simpa using h) fun i v hv => by simpa using hg (i + 1) v (by simpa using hv)⟩
    obtain ⟨y, hy, hc⟩ := hg 0 u rfl
    simp only [List.getElem?_cons_zero, Option.some.injEq] at hy
    subst hy; exact hc
theorem concs_append {γ : Gam} {l m : List AV} {xs ys : List Value} (h : Concs γ l xs) (h' : Concs γ m ys) : Concs γ (l ++ m) (xs ++ ys) := by
  induction l generalizing xs with
  | nil => simp only [Concs] at h; subst h; simpa using h'
  | cons v l ih =>
    simp only [Concs] at h
    obtain ⟨x, xs, rfl, h1, h2⟩ := h
    simp only [List.cons_append, Concs]
    exact ⟨x, xs ++ ys, rfl, h1, ih h2⟩
theorem concs_drop {γ : Gam} {l : List AV} {xs : List Value} (h : Concs γ l xs) (n : Nat) : Concs γ (l.drop n) (xs.drop n) :=
  concs_of (by simp [concs_length h]) fun i v hv => by
    rw [List.getElem?_drop] at hv ⊢
    exact concs_get h _ v hv
theorem concs_take {γ : Gam} {l : List AV} {xs : List Value} (h : Concs γ l xs) (n : Nat) : Concs γ (l.take n) (xs.take n) :=
  concs_of (by simp [concs_length h]) fun i v hv => by
    rw [List.getElem?_take] at hv ⊢
    split at hv
    · rw [if_pos ‹_›]; exact concs_get h _ v hv
    · simp at hv
theorem concs_setFrom {γ : Gam} {l vs : List AV} {xs ys : List Value} (h : Concs γ l xs) (h' : Concs γ vs ys) (off : Nat) : Concs γ (setFrom l off vs) (setFrom xs off ys) := by
  unfold setFrom
  rw [← concs_length h']
  exact concs_append (concs_append (concs_take h _) h') (concs_drop h _)
theorem concs_allSome {γ : Gam} {t : Tmps} {ρ : Operand → Value} (h : OpRel γ t ρ) : ∀ {l : List Operand} {vs : List AV}, argsA t l = some vs → Concs γ vs (l.map ρ)
  | [], vs, hv => by simp only [argsA, List.map_nil, allSome, Option.some.injEq] at hv; subst hv; simp [Concs]
  | x :: l, vs, hv => by
    simp only [argsA, List.map_cons] at hv
    cases hx : Go.Proofs.YtmgpfkoomlgcoaaGreat.Ev.opnd t x with
    | none => rw [hx] at hv; simp [allSome] at hv
    | some v =>
      rw [hx] at hv
      simp only [allSome] at hv
      cases hr : allSome (l.map (Go.Proofs.YtmgpfkoomlgcoaaGreat.Ev.opnd t)) with
      | none => rw [hr] at hv; simp at hv
      | some vs' =>
        rw [hr] at hv
        simp only [Option.some.injEq] at hv
        subst hv
        simp only [Concs, List.map_cons]
        exact ⟨_, _, rfl, h x v hx, concs_allSome h hr⟩

/-- The cells of a value. -/
theorem conc_cells {γ : Gam} {v : AV} {x : Value} (h : Conc γ v x) : Concs γ v.cells x.cells.toList := by
  cases v with
  | lit u =>
    rw [conc_lit_iff] at h
    subst h
    cases x <;> simp only [AV.cells, Value.cells] <;> first | exact concs_lits γ _ | (simp only [Concs]; exact ⟨_, _, rfl, conc_lit γ _, rfl⟩)
  | agg l =>
    simp only [Conc] at h
    obtain ⟨a, rfl, h⟩ := h
    simpa only [AV.cells, Value.cells] using h
  | ptr o off => have h' := h; simp only [Conc] at h'; obtain ⟨a, rfl, _⟩ := h'; simp only [AV.cells, Value.cells, Concs]; exact ⟨_, _, rfl, h, rfl⟩
  | slice o off len cap => have h' := h; simp only [Conc] at h'; obtain ⟨a, c, rfl, _⟩ := h'; simp only [AV.cells, Value.cells, Concs]; exact ⟨_, _, rfl, h, rfl⟩
  | map o => have h' := h; simp only [Conc] at h'; obtain ⟨a, rfl, _⟩ := h'; simp only [AV.cells, Value.cells, Concs]; exact ⟨_, _, rfl, h, rfl⟩
  | func f a b => have h' := h; simp only [Conc] at h'; obtain ⟨a, b, rfl, _⟩ := h'; simp only [AV.cells, Value.cells, Concs]; exact ⟨_, _, rfl, h, rfl⟩
  | iface ty u => have h' := h; simp only [Conc] at h'; obtain ⟨a, rfl, _⟩ := h'; simp only [AV.cells, Value.cells, Concs]; exact ⟨_, _, rfl, h, rfl⟩
  | tuple l => have h' := h; simp only [Conc] at h'; obtain ⟨a, rfl, _⟩ := h'; simp only [AV.cells, Value.cells, Concs]; exact ⟨_, _, rfl, h, rfl⟩

theorem conc_one {γ : Gam} {v : AV} {x : Value} (h : Conc γ v x) (ho : v.one = true) : x.oneCell' = true := by
  cases v with
  | lit u => rw [conc_lit_iff] at h; subst h; cases x <;> simp_all [AV.one, Value.oneCell']
  | agg l => simp [AV.one] at ho
  | tuple l => simp [AV.one] at ho
  | ptr o off => simp only [Conc] at h; obtain ⟨a, rfl, _⟩ := h; rfl
  | slice o off len cap => simp only [Conc] at h; obtain ⟨a, c, rfl, _⟩ := h; rfl
  | map o => simp only [Conc] at h; obtain ⟨a, rfl, _⟩ := h; rfl
  | func f a b => simp only [Conc] at h; obtain ⟨a, b, rfl, _⟩ := h; rfl
  | iface ty u => simp only [Conc] at h; obtain ⟨a, rfl, _⟩ := h; rfl

/-! ### Values without addresses -/
mutual
theorem flat_conc {γ : Gam} : ∀ (v : AV) (x y : Value), v.flat = some x → Conc γ v y → y = x
  | .lit v, x, y, h, hc => by
    simp only [AV.flat, Option.some.injEq] at h
    rw [conc_lit_iff] at hc
    rw [hc, h]
  | .agg l, x, y, h, hc => by
    simp only [AV.flat] at h
    split at h
    · rename_i xs hx
      simp only [Option.some.injEq] at h
      simp only [Conc] at hc
      obtain ⟨a, rfl, ha⟩ := hc
      have := flats_conc l xs _ hx ha
      subst h
      rw [← this]
    · cases h
  | .tuple l, x, y, h, hc => by
    simp only [AV.flat] at h
    split at h
    · rename_i xs hx
      simp only [Option.some.injEq] at h
      simp only [Conc] at hc
      obtain ⟨a, rfl, ha⟩ := hc
      have := flats_conc l xs _ hx ha
      subst h
      rw [← this]
    · cases h
  | .iface t v, x, y, h, hc => by
    simp only [AV.flat] at h
    split at h
    · rename_i z hz
      simp only [Option.some.injEq] at h
      simp only [Conc] at hc
      obtain ⟨a, rfl, ha⟩ := hc
      rw [flat_conc v z a hz ha, h]
    · cases h
  | .ptr .., _, _, h, _ | .slice .., _, _, h, _ | .map .., _, _, h, _ | .func .., _, _, h, _ => by simp [AV.flat] at h
theorem flats_conc {γ : Gam} : ∀ (l : List AV) (xs ys : List Value), AV.flats l = some xs → Concs γ l ys → ys = xs
  | [], xs, ys, h, hc => by
    simp only [AV.flats, Option.some.injEq] at h
    simp only [Concs] at hc
    rw [hc, h]
  | v :: l, xs, ys, h, hc => by
    simp only [AV.flats] at h
    split at h
    · rename_i x zs h1 h2
      simp only [Option.some.injEq] at h
      simp only [Concs] at hc
      obtain ⟨y, ys', rfl, c1, c2⟩ := hc
      rw [flat_conc v x y h1 c1, flats_conc l zs ys' h2 c2, h]
    · cases h
end

mutual
theorem conc_flat {γ : Gam} : ∀ (v : AV) (x : Value), v.flat = some x → Conc γ v x
  | .lit v, x, h => by
    simp only [AV.flat, Option.some.injEq] at h
    rw [conc_lit_iff, h]
  | .agg l, x, h => by
    simp only [AV.flat] at h
    split at h
    · rename_i xs hx
      simp only [Option.some.injEq] at h
      subst h
      simp only [Conc]
      exact ⟨_, rfl, concs_flat l xs hx⟩
    · cases h
  | .tuple l, x, h => by
    simp only [AV.flat] at h
    split at h
    · rename_i xs hx
      simp only [Option.some.injEq] at h
      subst h
      simp only [Conc]
      exact ⟨_, rfl, concs_flat l xs hx⟩
    · cases h
  | .iface t v, x, h => by
    simp only [AV.flat] at h
    split at h
    · rename_i z hz
      simp only [Option.some.injEq] at h
      subst h
      simp only [Conc]
      exact ⟨z, rfl, conc_flat v z hz⟩
    · cases h
  | .ptr .., _, h | .slice .., _, h | .map .., _, h | .func .., _, h => by simp [AV.flat] at h
theorem concs_flat {γ : Gam} : ∀ (l : List AV) (xs : List Value), AV.flats l = some xs → Concs γ l xs
  | [], xs, h => by
    simp only [AV.flats, Option.some.injEq] at h
    subst h
    simp [Concs]
  | v :: l, xs, h => by
    simp only [AV.flats] at h
    split at h
    · rename_i x zs h1 h2
      simp only [Option.some.injEq] at h
      subst h
      simp only [Concs]
      exact ⟨x, zs, rfl, conc_flat v x h1, concs_flat l zs h2⟩
    · cases h
end

end Go.Proofs.YtmgpfkoomlgcoaaGreat.Ev
