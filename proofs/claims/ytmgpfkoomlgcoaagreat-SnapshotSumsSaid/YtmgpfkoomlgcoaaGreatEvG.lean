/-
  What the evaluator's operations give: lengths, conversions, keys; then every operation that gives a value.
-/
import Derived.Test.YtmgpfkoomlgcoaaGreatEvF
namespace Go.Proofs.YtmgpfkoomlgcoaaGreat.Ev

def FindRel (γ : Gam) : Option (Nat × AV) → Option (Nat × Value) → Prop
  | none, none => True
  | some (j, v), some (j', v') => j = j' ∧ Conc γ v v'
  | _, _ => False

theorem fits_lits : ∀ {ks : List Nat} {l : List AV}, fits ks l = true → ∃ xs : List Value, l = xs.map .lit
  | [], [], _ => ⟨[], rfl⟩
  | [], _ :: _, h => by simp [fits] at h
  | _ :: _, [], h => by simp [fits] at h
  | k :: ks, v :: l, h => by
    cases v with
    | lit u =>
      simp only [fits, Bool.and_eq_true] at h
      obtain ⟨xs, rfl⟩ := fits_lits h.2
      exact ⟨u :: xs, rfl⟩
    | _ => simp [fits] at h

section
variable {P : Program} {E : Env} (hE : EnvOk P E) {γ : Gam} {σ : AS} {w : World}
include hE

theorem checkKey_ok {t : TypeId} {k : AV} {d : TypeDesc} {x : Value} {b : Bool} (h : keyTy E t k = some d) (hx : Conc γ k x) : (Instr.checkKey b 10000 t x).run P w = .ok () w := by
  unfold keyTy at h
  cases hr : E.ty t with
  | none => rw [hr] at h; cases h
  | some r =>
    rw [hr] at h
    simp only [] at h
    have hk := fun n k e (h1 : r.flat = some n) (h2 : r.und = .array k e) xs => hE.key t r n k e hr h1 h2 xs b w
    have hmax : (10000 : Nat) = 9999 + 1 := rfl
    rw [hmax] at hk ⊢
    generalize 9999 = m at hk ⊢
    split at h
    · rename_i hd
      rw [conc_lit_iff] at hx; subst hx
      simp only [Instr.checkKey, Sem.run_bind, run_und hE hr w, Result.andThen_ok, hd]
      rfl
    · rename_i hd
      rw [conc_lit_iff] at hx; subst hx
      simp only [Instr.checkKey, Sem.run_bind, run_und hE hr w, Result.andThen_ok, hd]
      rfl
    · rename_i hd
      rw [conc_lit_iff] at hx; subst hx
      simp only [Instr.checkKey, Sem.run_bind, run_und hE hr w, Result.andThen_ok, hd]
      rfl
    · rename_i n e l hd
      split at h
      · rename_i q hq
        split at h
        · rename_i hb
          rw [Bool.and_eq_true] at hb
          simp only [Conc] at hx
          obtain ⟨a, rfl, ha⟩ := hx
          have : ∃ xs : List Value, l = xs.map .lit := fits_lits hb.2
          obtain ⟨xs, rfl⟩ := this
          have e1 := concs_lits_eq ha
          have := hk q n e hq hd xs (by have := Nat.eq_of_beq_eq_true hb.1; simpa using this)
          rw [← e1] at this
          simpa using this
        · cases h
      · cases h
    · cases h

omit hE in
theorem findNow_ok {d : TypeDesc} {k : AV} {x : Value} (hx : Conc γ k x) (hn : ∀ n e, d ≠ .array n e) : ∀ (es : List (AV × AV × Nat)) (es' : List MapEntry) (i : Nat) (r : Option (Nat × AV)), EntRel γ es es' → findA d k es i = some r →
    ∃ r', Instr.findNow d x es' i = some r' ∧ FindRel γ r r'
  | [], es', i, r, he, h => by
    simp only [EntRel] at he
    subst he
    simp only [findA, Option.some.injEq] at h
    subst h
    exact ⟨none, rfl, trivial⟩
  | (k', v, b) :: es, es', i, r, he, h => by
    simp only [EntRel] at he
    obtain ⟨kk, vv, rest, rfl, h1, h2, he⟩ := he
    simp only [findA] at h
    cases hk : keyEq d k k' with
    | none => rw [hk] at h; cases h
    | some c =>
      rw [hk] at h
      have hs : Instr.sameNow d x kk = some c := by
        unfold keyEq at hk
        split at hk
        · rw [conc_lit_iff] at hx h1; subst hx h1; exact hk
        · rw [conc_lit_iff] at hx h1; subst hx h1; exact hk
        · rw [conc_lit_iff] at hx h1; subst hx h1; exact hk
        · exact absurd rfl (hn _ _)
        · cases hk
      simp only [Instr.findNow, hs]
      cases c with
      | true =>
        simp only [Option.some.injEq] at h
        subst h
        exact ⟨some (i, vv), rfl, rfl, h2⟩
      | false => exact findNow_ok hx hn es rest (i + 1) r he h

theorem findAsking_ok {t : TypeId} {r : TyRow} {n : Nat} {e : TypeId} (hr : E.ty t = some r) (hd : r.und = .array n e) (m : Nat) (hm : r.flat = some m) {l : List AV} {x : Array Value} (hx : Concs γ l x.toList) (hl : l.length = m) (hkd : fits r.kinds l = true)
    (hel : ∀ (l' : List AV) c, flatEq l l' = some c → l'.length = m) : ∀ (es : List (AV × AV × Nat)) (es' : List MapEntry) (i : Nat) (q : Option (Nat × AV)), EntRel γ es es' → findA (.array n e) (.agg l) es i = some q →
    ∃ r', (Instr.findAsking t (.agg x) es' i).run P w = .ok r' w ∧ FindRel γ q r'
  | [], es', i, q, he, h => by
    simp only [EntRel] at he
    subst he
    simp only [findA, Option.some.injEq] at h
    subst h
    exact ⟨none, rfl, trivial⟩
  | (k', v, b) :: es, es', i, q, he, h => by
    simp only [EntRel] at he
    obtain ⟨kk, vv, rest, rfl, h1, h2, he⟩ := he
    simp only [findA] at h
    cases hk : keyEq (.array n e) (.agg l) k' with
    | none => rw [hk] at h; cases h
    | some c =>
      rw [hk] at h
      have hs : (Op.equal t (.agg x) kk).run P w = .ok c w := by
        unfold keyEq at hk
        split at hk
        · rename_i heq _; cases heq
        · rename_i heq _; cases heq
        · rename_i heq _; cases heq
        · rename_i l1 l2 _ heq
          simp only [AV.agg.injEq] at heq
          subst heq
          simp only [Conc] at h1
          obtain ⟨y, rfl, hy⟩ := h1
          exact flat_ok hE hr hm hl (hel _ _ hk) hkd hk hx hy
        · cases hk
      simp only [Instr.findAsking, Sem.run_bind, hs, Result.andThen_ok]
      cases c with
      | true =>
        simp only [Option.some.injEq] at h
        subst h
        exact ⟨some (i, vv), rfl, rfl, h2⟩
      | false =>
        simp only [Bool.false_eq_true, if_false]
        exact findAsking_ok hr hd m hm hx hl hkd hel es rest (i + 1) q he h

omit hE in
theorem flatEq_length : ∀ {l m : List AV} {b : Bool}, flatEq l m = some b → m.length = l.length := by
  intro l m b h
  obtain ⟨⟨xs, rfl⟩, ys, rfl⟩ := flatEq_lits h
  induction xs generalizing ys b with
  | nil => cases ys with
    | nil => rfl
    | cons y ys => simp [flatEq] at h
  | cons x xs ih => cases ys with
    | nil => simp [flatEq] at h
    | cons y ys =>
      simp only [List.map_cons, flatEq] at h
      split at h
      · rename_i hy
        simpa using ih ys hy
      · cases h

theorem findKey_ok {t : TypeId} {k : AV} {d : TypeDesc} {x : Value} (h : keyTy E t k = some d) (hx : Conc γ k x) {es : List (AV × AV × Nat)} {es' : List MapEntry} {q : Option (Nat × AV)} (he : EntRel γ es es')
    (hf : findA d k es 0 = some q) : ∃ r', (Instr.findKey t x es').run P w = .ok r' w ∧ FindRel γ q r' := by
  unfold keyTy at h
  cases hr : E.ty t with
  | none => rw [hr] at h; cases h
  | some r =>
    rw [hr] at h
    simp only [] at h
    unfold Instr.findKey
    simp only [Sem.run_bind, run_und hE hr w, Result.andThen_ok]
    have plain : r.und = d → (∀ n e, d ≠ .array n e) → ∃ r', Sem.run P (match Instr.findNow r.und x es' 0 with
        | some r => pure r
        | none => Instr.findAsking t x es') w = .ok r' w ∧ FindRel γ q r' := by
      intro hd hn
      obtain ⟨r', h1, h2⟩ := findNow_ok hx hn es es' 0 q he hf
      rw [hd, h1]
      exact ⟨r', rfl, h2⟩
    split at h
    · rename_i hd
      simp only [Option.some.injEq] at h
      exact plain (hd.trans h) (by intro n e he; rw [← h] at he; cases he)
    · rename_i hd
      simp only [Option.some.injEq] at h
      exact plain (hd.trans h) (by intro n e he; rw [← h] at he; cases he)
    · rename_i hd
      simp only [Option.some.injEq] at h
      exact plain (hd.trans h) (by intro n e he; rw [← h] at he; cases he)
    · rename_i n e l hd
      split at h
      · rename_i m hm
        split at h
        · rename_i hb
          rw [Bool.and_eq_true] at hb
          simp only [Option.some.injEq] at h
          subst h
          simp only [Conc] at hx
          obtain ⟨a, rfl, ha⟩ := hx
          have hl := Nat.eq_of_beq_eq_true hb.1
          obtain ⟨r', h1, h2⟩ := findAsking_ok hE (w := w) hr hd m hm ha hl hb.2 (fun l' c hc => by rw [flatEq_length hc, hl]) es es' 0 q he hf
          cases es with
          | nil =>
            simp only [EntRel] at he
            subst he
            simp only [findA, Option.some.injEq] at hf
            subst hf
            exact ⟨none, rfl, trivial⟩
          | cons e0 es =>
            obtain ⟨k0, v0, b0⟩ := e0
            simp only [EntRel] at he
            obtain ⟨kk, vv, rest, rfl, he1, he2, he⟩ := he
            have : Instr.findNow r.und (.agg a) (⟨kk, vv, b0⟩ :: rest) 0 = none := by
              rw [hd]
              simp only [Instr.findNow, Instr.sameNow]
            rw [this]
            exact ⟨r', h1, h2⟩
        · cases h
      · cases h
    · cases h

omit hE in
theorem mapEs_ok (hR : Rel γ σ w) {x : AV} {y : Value} {es : List (AV × AV × Nat)} (h : mapEs σ x = some es) (hx : Conc γ x y) :
    (y = .map none ∧ es = []) ∨ (∃ r es' clock, y = .map (some r) ∧ w.heap[r]? = some (.map es' clock) ∧ EntRel γ es es'.toList) := by
  unfold mapEs at h
  split at h
  · rw [conc_lit_iff] at hx
    simp only [Option.some.injEq] at h
    exact .inl ⟨hx, h.symm⟩
  · rename_i o
    split at h
    · rename_i es0 clock hg
      simp only [Option.some.injEq] at h
      subst h
      simp only [Conc] at hx
      obtain ⟨r, rfl, hr⟩ := hx
      obtain ⟨p, hp, es', hb, he⟩ := hR.find hg (by simp) hr.ne
      rw [hr.at hp]
      exact .inr ⟨_, es', clock, rfl, hb, he⟩
    · cases h
  · cases h

theorem lookup_ok (hR : Rel γ σ w) {t : TypeId} {x k v : AV} {ok : Bool} (h : lookupA E σ t x k ok = some v) {x' k' : Value} (hx : Conc γ x x') (hk : Conc γ k k') :
    ∃ y, (Instr.lookup t x' k' ok).run P w = .ok y w ∧ Conc γ v y := by
  unfold lookupA at h
  cases hr : E.ty t with
  | none => rw [hr] at h; cases h
  | some r =>
    rw [hr] at h
    simp only [] at h
    split at h
    · rename_i kt et hd
      split at h
      · rename_i d es er hkt hes her
        have hck := fun b => checkKey_ok hE (w := w) (b := b) hkt hk
        have two : ∀ (a b : Value) (u v : AV), Conc γ u a → Conc γ v b → Conc γ (.tuple [u, v]) (.tuple #[a, b]) := by
          intro a b u v h1 h2
          simp only [Conc]
          exact ⟨_, rfl, by simp only [Concs]; exact ⟨a, [b], rfl, h1, b, [], rfl, h2, rfl⟩⟩
        unfold Instr.lookup
        simp only [Sem.run_bind, run_und hE hr w, Result.andThen_ok, hd]
        split at h
        · rename_i j u hf
          simp only [Option.some.injEq] at h
          subst h
          rcases mapEs_ok hR hes hx with ⟨rfl, he⟩ | ⟨r0, es', clock, rfl, hb, he⟩
          · subst he
            simp [findA] at hf
          · obtain ⟨r', h1, h2⟩ := findKey_ok hE (w := w) hkt hk he hf
            cases r' with
            | none => exact h2.elim
            | some r' =>
              have hg : (getObj r0).run P w = .ok (.map es' clock) w := by simp [getObj, Sem.run, hb]
              simp only [Sem.run_bind, hg, hck, h1, Result.andThen_ok, Sem.run_pure]
              cases ok with
              | true => exact ⟨_, rfl, two _ _ _ _ h2.2 (conc_lit γ _)⟩
              | false => exact ⟨_, rfl, h2.2⟩
        · rename_i hf
          split at h
          · rename_i z hz
            simp only [Option.some.injEq] at h
            subst h
            have hzz := conc_ofValue γ z
            rcases mapEs_ok hR hes hx with ⟨rfl, he⟩ | ⟨r0, es', clock, rfl, hb, he⟩
            · obtain ⟨r', h1, h2⟩ := findKey_ok hE (w := w) (es' := []) hkt hk (by rw [he]; rfl) hf
              cases r' with
              | some r' => exact h2.elim
              | none =>
                simp only [Sem.run_bind, hck, h1, Result.andThen_ok, Sem.run_pure, run_zero hE her w hz]
                cases ok with
                | true => exact ⟨_, rfl, two _ _ _ _ hzz (conc_lit γ _)⟩
                | false => exact ⟨_, rfl, hzz⟩
            · obtain ⟨r', h1, h2⟩ := findKey_ok hE (w := w) hkt hk he hf
              cases r' with
              | some r' => exact h2.elim
              | none =>
                have hg : (getObj r0).run P w = .ok (.map es' clock) w := by simp [getObj, Sem.run, hb]
                simp only [Sem.run_bind, hg, hck, h1, Result.andThen_ok, Sem.run_pure, run_zero hE her w hz]
                cases ok with
                | true => exact ⟨_, rfl, two _ _ _ _ hzz (conc_lit γ _)⟩
                | false => exact ⟨_, rfl, hzz⟩
          · cases h
        · cases h
      · cases h
    · cases h

end
end Go.Proofs.YtmgpfkoomlgcoaaGreat.Ev
