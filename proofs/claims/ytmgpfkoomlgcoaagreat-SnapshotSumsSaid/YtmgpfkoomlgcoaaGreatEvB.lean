/-
  The evaluator's relation to the model's worlds: objects have places, values are as told, what comes behind keeps what was.
-/
import Derived.Test.YtmgpfkoomlgcoaaGreatEvA
import Derived.Laws.Sem
import Derived.Laws.Rows
import Derived.Laws.CopyRow
import Derived.Laws.Entries
namespace Go.Proofs.YtmgpfkoomlgcoaaGreat.Ev

/-! ### Trees -/
theorem beq_t {i : Nat} (h : Nat.beq i 0 = true) : i = 0 := Nat.eq_of_beq_eq_true h
theorem beq_f {i : Nat} (h : Nat.beq i 0 = false) : i ≠ 0 := Nat.ne_of_beq_eq_false h

theorem T.set_e {α : Type} (a : α) (f i : Nat) : T.set (f + 1) .e i a = T.set (f + 1) (.n none .e .e) i a := by
  cases i with
  | zero => rfl
  | succ i => simp only [T.set]
theorem T.get_e {α : Type} (j : Nat) : (T.n (none : Option α) .e .e).get j = none := by
  cases j with
  | zero => rfl
  | succ j => simp only [T.get]; split <;> rfl

theorem T.get_set {α : Type} (a : α) : ∀ (f : Nat) (t : T α) (i j : Nat), i + 1 < 2 ^ f → (T.set f t i a).get j = if j = i then some a else t.get j := by
  intro f
  induction f with
  | zero => intro t i j h; simp at h
  | succ f ih =>
    have main : ∀ (v : Option α) (l r : T α) (i j : Nat), i + 1 < 2 ^ (f + 1) → (T.set (f + 1) (.n v l r) i a).get j = if j = i then some a else (T.n v l r).get j := by
      intro v l r i j h
      have hp : 2 ^ (f + 1) = 2 * 2 ^ f := by rw [Nat.pow_succ]; omega
      cases i with
      | zero =>
        cases j with
        | zero => simp [T.set, T.get]
        | succ j => simp [T.set, T.get]
      | succ i =>
        have hk : i / 2 + 1 < 2 ^ f := by omega
        simp only [T.set]
        cases hb : Nat.beq (i % 2) 0 <;> simp only [] <;> cases j with
        | zero => simp [T.get]
        | succ j =>
          simp only [T.get]
          cases hb' : Nat.beq (j % 2) 0 <;> simp only [] <;> try rw [ih _ _ _ hk]
          all_goals
            first | have h1 := beq_t hb | have h1 := beq_f hb
            first | have h2 := beq_t hb' | have h2 := beq_f hb'
            by_cases hij : j = i
            · subst hij; first | (exfalso; omega) | simp
            · rw [if_neg (by omega : ¬ j + 1 = i + 1)]
              try rw [if_neg (by omega)]
    intro t i j h
    cases t with
    | n v l r => exact main v l r i j h
    | e => rw [T.set_e, main none .e .e i j h, T.get_e]; rfl

theorem T.get_put {α : Type} (t : T α) (i j : Nat) (a : α) (h : i ≤ lim) : (t.put i a).get j = if j = i then some a else t.get j :=
  T.get_set a 21 t i j (by unfold lim at h; omega)

/-! ### Places -/
structure Place where
  block : Nat
  base : Nat
  top : Nat

/-- Where objects are: none: not yet anywhere; some none: gone. -/
abbrev Gam := Nat → Option (Option Place)

def atP (γ : Gam) (o off : Nat) (a : Addr) : Prop :=
  match γ o with
  | none => False
  | some none => True
  | some (some p) => a = ⟨p.block, p.base + off, none⟩

def topP (γ : Gam) (o n : Nat) : Prop :=
  match γ o with
  | none => False
  | some none => True
  | some (some p) => p.base + n ≤ p.top

def mapP (γ : Gam) (o r : Nat) : Prop :=
  match γ o with
  | none => False
  | some none => True
  | some (some p) => r = p.block

mutual
def Conc (γ : Gam) : AV → Value → Prop
  | .lit v, x => x = v
  | .ptr o off, x => ∃ a, x = .pointer (some a) ∧ atP γ o off a
  | .slice o off len cap, x => ∃ a c, x = .slice (some a) len c ∧ (c = 0 ∨ atP γ o off a) ∧ len ≤ c ∧ (match cap with
      | .k n => c = n
      | .grown size => topP γ o (off + c * size))
  | .map o, x => ∃ r, x = .map (some r) ∧ mapP γ o r
  | .func fn a b, x => ∃ a' b' : Array Value, x = .func fn a' b' ∧ Concs γ a a'.toList ∧ Concs γ b b'.toList
  | .iface t v, x => ∃ y, x = .iface t y ∧ Conc γ v y
  | .agg l, x => ∃ a : Array Value, x = .agg a ∧ Concs γ l a.toList
  | .tuple l, x => ∃ a : Array Value, x = .tuple a ∧ Concs γ l a.toList
def Concs (γ : Gam) : List AV → List Value → Prop
  | [], l => l = []
  | v :: vs, l => ∃ x xs, l = x :: xs ∧ Conc γ v x ∧ Concs γ vs xs
end

def Ext (γ γ' : Gam) : Prop := ∀ o p, γ o = some p → γ' o = some p ∨ γ' o = some none

theorem Ext.refl (γ : Gam) : Ext γ γ := fun _ _ h => .inl h
theorem Ext.trans {a b c : Gam} (h : Ext a b) (h' : Ext b c) : Ext a c := fun o p hp => by
  rcases h o p hp with e | e
  · exact h' o p e
  · rcases h' o none e with e' | e' <;> exact .inr e'

theorem atP.mono {γ γ' : Gam} (h : Ext γ γ') {o off : Nat} {a : Addr} (ha : atP γ o off a) : atP γ' o off a := by
  unfold atP at *
  cases hg : γ o with
  | none => rw [hg] at ha; exact ha.elim
  | some p =>
    rcases h o p hg with e | e
    · rw [e]; rw [hg] at ha; exact ha
    · rw [e]; trivial
theorem topP.mono {γ γ' : Gam} (h : Ext γ γ') {o n : Nat} (ha : topP γ o n) : topP γ' o n := by
  unfold topP at *
  cases hg : γ o with
  | none => rw [hg] at ha; exact ha.elim
  | some p =>
    rcases h o p hg with e | e
    · rw [e]; rw [hg] at ha; exact ha
    · rw [e]; trivial
theorem mapP.mono {γ γ' : Gam} (h : Ext γ γ') {o n : Nat} (ha : mapP γ o n) : mapP γ' o n := by
  unfold mapP at *
  cases hg : γ o with
  | none => rw [hg] at ha; exact ha.elim
  | some p =>
    rcases h o p hg with e | e
    · rw [e]; rw [hg] at ha; exact ha
    · rw [e]; trivial

mutual
theorem Conc.mono {γ γ' : Gam} (h : Ext γ γ') : ∀ (v : AV) (x : Value), Conc γ v x → Conc γ' v x
  | .lit _, _, hx => by unfold Conc at *; exact hx
  | .ptr _ _, _, hx => by
    unfold Conc at *
    obtain ⟨a, e, ha⟩ := hx
    exact ⟨a, e, ha.mono h⟩
  | .slice _ _ _ cap, _, hx => by
    unfold Conc at *
    obtain ⟨a, c, e, ha, hl, hc⟩ := hx
    refine ⟨a, c, e, ha.imp id (atP.mono h), hl, ?_⟩
    cases cap with
    | k n => exact hc
    | grown s => exact topP.mono h hc
  | .map _, _, hx => by
    unfold Conc at *
    obtain ⟨r, e, hr⟩ := hx
    exact ⟨r, e, hr.mono h⟩
  | .func _ l m, _, hx => by
    unfold Conc at *
    obtain ⟨a, b, e, h1, h2⟩ := hx
    exact ⟨a, b, e, Concs.mono h l _ h1, Concs.mono h m _ h2⟩
  | .iface _ v, _, hx => by
    unfold Conc at *
    obtain ⟨y, e, hy⟩ := hx
    exact ⟨y, e, Conc.mono h v y hy⟩
  | .agg l, _, hx => by
    unfold Conc at *
    obtain ⟨a, e, h1⟩ := hx
    exact ⟨a, e, Concs.mono h l _ h1⟩
  | .tuple l, _, hx => by
    unfold Conc at *
    obtain ⟨a, e, h1⟩ := hx
    exact ⟨a, e, Concs.mono h l _ h1⟩
theorem Concs.mono {γ γ' : Gam} (h : Ext γ γ') : ∀ (l : List AV) (x : List Value), Concs γ l x → Concs γ' l x
  | [], _, hx => by unfold Concs at *; exact hx
  | v :: vs, _, hx => by
    unfold Concs at *
    obtain ⟨x, xs, e, h1, h2⟩ := hx
    exact ⟨x, xs, e, Conc.mono h v x h1, Concs.mono h vs xs h2⟩
end

end Go.Proofs.YtmgpfkoomlgcoaaGreat.Ev
