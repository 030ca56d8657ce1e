/-
  Steps of a region: one operation, and regions in their own order.
-/
import Derived.Test.YtmgpfkoomlgcoaaGreatEvO
namespace Go.Proofs.YtmgpfkoomlgcoaaGreat.Ev

/-! ### Temporaries, some left out -/
def T.mask {α : Type} : (Nat → Bool) → T α → T α
  | _, .e => .e
  | p, .n v l r => .n (if p 0 then none else v) (T.mask (fun i => p (2 * i + 1)) l) (T.mask (fun i => p (2 * i + 2)) r)

theorem T.get_mask {α : Type} : ∀ (p : Nat → Bool) (t : T α) (i : Nat), (T.mask p t).get i = if p i then none else t.get i
  | p, .e, i => by simp [T.mask, T.get]
  | p, .n v l r, i => by
    cases i with
    | zero => simp [T.mask, T.get]
    | succ i =>
      simp only [T.mask, T.get]
      cases hb : Nat.beq (i % 2) 0 with
      | true =>
        have := beq_t hb
        simp only []
        rw [T.get_mask]
        rw [show 2 * (i / 2) + 1 = i + 1 by omega]
      | false =>
        have := beq_f hb
        simp only []
        rw [T.get_mask]
        rw [show 2 * (i / 2) + 2 = i + 1 by omega]

theorem opnd_mask {p : Nat → Bool} {t : Tmps} {x : Operand} (h : ∀ d, x = .tmp d → p d = false) : opnd (T.mask p t) x = opnd t x := by
  cases x with
  | tmp d => simp only [opnd]; rw [T.get_mask, h d rfl]; rfl
  | _ => rfl

theorem argsA_congr {t t' : Tmps} : ∀ {l : List Operand}, (∀ x ∈ l, opnd t x = opnd t' x) → argsA t l = argsA t' l
  | [], _ => rfl
  | x :: l, h => by
    unfold argsA
    simp only [List.map_cons, h x (by simp)]
    have : l.map (opnd t) = l.map (opnd t') := List.map_congr_left fun y hy => h y (by simp [hy])
    rw [this]

theorem optOp_congr {t t' : Tmps} {x : Option Operand} (h : ∀ y ∈ x.toArray, opnd t y = opnd t' y) : optOp t x = optOp t' x := by
  cases x with
  | none => rfl
  | some y => simp only [optOp, h y (by simp)]

theorem evOp_congr {E : Env} {t t' : Tmps} {σ : AS} (op : Op) (h : ∀ x ∈ op.operands, opnd t x = opnd t' x) : evOp E t σ op = evOp E t' σ op := by
  cases op <;> simp only [Op.operands] at h <;> simp only [evOp]
  case build ty parts =>
    rw [argsA_congr (t' := t') fun x hx => h x (by simpa using hx)]
  case buildSlice ty n parts =>
    rw [argsA_congr (t' := t') fun x hx => h x (by simpa using hx)]
  case makeFunc fn first captured =>
    rw [argsA_congr (l := first.toList) (t' := t') fun x hx => h x (by simp at hx; simp [hx]), argsA_congr (l := captured.toList) (t' := t') fun x hx => h x (by simp at hx; simp [hx])]
  case slice ty x lo hi mx =>
    rw [h x (by simp), optOp_congr (x := lo) (t' := t') fun y hy => h y (by simp only [Array.mem_append]; exact .inl (.inl (.inr hy))), optOp_congr (x := hi) (t' := t') fun y hy => h y (by simp only [Array.mem_append]; exact .inl (.inr hy)),
      optOp_congr (x := mx) (t' := t') fun y hy => h y (by simp only [Array.mem_append]; exact .inr hy)]
  case call c =>
    have ha : argsA t c.args.toList = argsA t' c.args.toList := argsA_congr fun x hx => h x (by simp [Call.operands] ; right; simpa using hx)
    rw [ha]
    cases hc : c.callee with
    | value f => simp only [h f (by simp [Call.operands, hc])]
    | invoke r m => simp only [h r (by simp [Call.operands, hc])]
    | builtin b => rfl
  all_goals
    first
      | rfl
      | (rename_i x; simp only [h x (by simp)]; done)
      | (simp at h; simp only [h]; done)

/-! ### Whether an operation goes -/
theorem wanted_ok {γ : Gam} {n : Nat} {t : Tmps} {a : Act} {ops : Array Oper} {o : Oper} {b : Bool} (h : wantedA ops.toList t o = some b) (hT : ∀ d v, (o.guard.bind fun g => (ops[g.1]?).bind (·.dst)) = some d → t.get d = some v → ∃ x, a.tmps[d]? = some x ∧ Conc γ v x) :
    Region.wanted o (yielded ops a.tmps) = b := by
  unfold wantedA at h
  unfold Region.wanted
  cases hg : o.guard with
  | none => rw [hg] at h; simp only [Option.some.injEq] at h; exact h
  | some g =>
    obtain ⟨j, want⟩ := g
    rw [hg] at h
    simp only [] at h ⊢
    split at h
    · rename_i p hp
      split at h
      · rename_i d hd
        have hp' : ops[j]? = some p := by simpa using hp
        have hb : (o.guard.bind fun g => (ops[g.1]?).bind (·.dst)) = some d := by rw [hg]; simp [hp', hd]
        split at h
        · rename_i c hc
          simp only [Option.some.injEq] at h
          obtain ⟨x, hx, hcx⟩ := hT d _ hb hc
          rw [conc_lit_iff] at hcx
          subst hcx
          unfold yielded
          simp only [hp', Option.bind_some, hd, hx]
          rw [← h]
          cases c <;> cases want <;> rfl
        · rename_i c hc
          simp only [Option.some.injEq] at h
          obtain ⟨x, hx, hcx⟩ := hT d _ hb hc
          rw [conc_lit_iff] at hcx
          subst hcx
          unfold yielded
          simp only [hp', Option.bind_some, hd, hx]
          rw [← h]
          rfl
        · cases h
      · cases h
    · cases h

theorem wantedA_congr {ops : Array Oper} {t t' : Tmps} {o : Oper} (h : ∀ d, (o.guard.bind fun g => (ops[g.1]?).bind (·.dst)) = some d → t.get d = t'.get d) : wantedA ops.toList t o = wantedA ops.toList t' o := by
  unfold wantedA
  cases hg : o.guard with
  | none => rfl
  | some g =>
    obtain ⟨j, want⟩ := g
    simp only []
    cases hp : ops.toList[j]? with
    | none => rfl
    | some p =>
      simp only []
      cases hd : p.dst with
      | none => rfl
      | some d =>
        have hp' : ops[j]? = some p := by simpa using hp
        simp only []
        rw [h d (by rw [hg]; simp [hp', hd])]

/-! ### Putting a value -/
theorem put_ok {γ : Gam} {n : Nat} {t t' : Tmps} {a : Act} {d : Option Nat} {v : AV} {x : Value} (hT : ConcT γ n t a) (h : putA n t d v = some t') (hn : n ≤ lim) (hx : Conc γ v x) : ConcT γ n t' (a.put d x) := by
  unfold putA at h
  cases d with
  | none => simp only [Option.some.injEq] at h; subst h; exact hT
  | some d =>
    simp only [] at h
    split at h
    · rename_i hlt
      have hlt := blt_t hlt
      simp only [Option.some.injEq] at h
      subst h
      refine ⟨by simpa [Act.put] using hT.size, hT.defers, fun i u hu => ?_⟩
      rw [T.get_put _ _ _ _ (by omega)] at hu
      have hsz := hT.size
      by_cases e : i = d
      · subst e
        rw [if_pos rfl] at hu
        simp only [Option.some.injEq] at hu
        subst hu
        exact ⟨x, by simp only [Act.put]; rw [Array.getElem?_setIfInBounds_self_of_lt (by omega)], hx⟩
      · rw [if_neg e] at hu
        obtain ⟨y, hy, hc⟩ := hT.get i u hu
        exact ⟨y, by simp only [Act.put]; rw [Array.getElem?_setIfInBounds_ne (Ne.symm e)]; exact hy, hc⟩
    · cases h

theorem ConcT.mono {γ γ' : Gam} {n : Nat} {t : Tmps} {a : Act} (hx : Ext γ γ') (h : ConcT γ n t a) : ConcT γ' n t a :=
  ⟨h.size, h.defers, fun i v hv => let ⟨x, h1, h2⟩ := h.get i v hv; ⟨x, h1, h2.mono hx _ _⟩⟩

/-- What a call must give. -/
def CbOk (P : Program) (cb : Cb) : Prop :=
  ∀ f args σ v σ', cb f args σ = some (v, σ') → ∀ F γ w (xs : Array Value), RelL F γ σ w → Concs γ args xs.toList →
    (callFunc f xs).run P w = .ok (.enter f xs) w ∧ ∀ R : Ending → World → Prop, (∀ γ' x w', Conc γ' v x → RelL F γ' σ' w' → Step γ σ γ' σ' → R (.returned x) w') → Calls P f xs w R

section
variable {F : Frz} {P : Program} {E : Env} (hE : EnvOk P E) {γ : Gam} {σ : AS} {w : World} {t : Tmps} {ρ : Operand → Value}
include hE

theorem method_ok {ty : TypeId} {v : AV} {y : Value} {r : TyRow} {name : String} {m : Method} {f : FuncId} (hr : E.ty ty = some r) (hm : r.info.methods.find? (·.name == name) = some m) (hp : m.path.isEmpty = true) (hf : m.func = some (f, true))
    {e : TypeId} (hd : r.und = .pointer e) (k : Nat) : (method (k + 1) ty y name).run P w = .ok (f, y) w := by
  have hpl : m.path.toList = [] := by simpa using hp
  unfold method
  simp only [Sem.run_bind, run_info hE hr w, Result.andThen_ok, hm, hpl, follow, Sem.run_pure, hf, receiverAt, run_und hE hr w, hd, Place.get]

theorem call_ok (hρ : OpRel γ t ρ) (o : Oper) {f : Nat} {args : List AV} (h : evOp E t σ o.op = some (.call f args)) :
    ∃ xs : Array Value, Concs γ args xs.toList ∧ (execOp ρ o).run P w = (callFunc f xs).run P w := by
  obtain ⟨dst, op, type, pos, after, guard⟩ := o
  simp only [] at h
  cases op <;> simp only [evOp] at h
  case call c =>
    split at h
    · cases h
    · rename_i as hargs
      have hc := concs_allSome hρ hargs
      split at h
      · rename_i fo hcal
        split at h
        · rename_i fv hfv
          have hcf := hρ _ _ hfv
          unfold fnCall at h
          split at h
          · rename_i g first cap
            simp only [Option.some.injEq, Out.call.injEq] at h
            obtain ⟨rfl, rfl⟩ := h
            rw [conc_lit_iff] at hcf
            refine ⟨first ++ c.args.map ρ ++ cap, ?_, ?_⟩
            · simp only [Array.toList_append, Array.toList_map]
              exact concs_append (concs_append (concs_lits γ _) hc) (concs_lits γ _)
            · simp only [execOp, resolve, hcal, hcf, Deferred.ofValue, Sem.run_bind, Sem.run_pure, Result.andThen_ok, invoke]
          · rename_i g first cap
            simp only [Option.some.injEq, Out.call.injEq] at h
            obtain ⟨rfl, rfl⟩ := h
            simp only [Conc] at hcf
            obtain ⟨a', b', hcf, h1, h2⟩ := hcf
            refine ⟨a' ++ c.args.map ρ ++ b', ?_, ?_⟩
            · simp only [Array.toList_append, Array.toList_map]
              exact concs_append (concs_append h1 hc) h2
            · simp only [execOp, resolve, hcal, hcf, Deferred.ofValue, Sem.run_bind, Sem.run_pure, Result.andThen_ok, invoke]
          · cases h
        · cases h
      · unfold builtinA at h
        (repeat' split at h) <;> first | cases h | (obtain ⟨_, _, e⟩ := Option.map_eq_some_iff.1 h; cases e)
      · rename_i x name hcal
        split at h
        · rename_i ty v hx
          split at h
          · rename_i r hr
            split at h
            · rename_i m e hm hd
              split at h
              · rename_i g hpath hfun
                simp only [Option.some.injEq, Out.call.injEq] at h
                obtain ⟨rfl, rfl⟩ := h
                have hcx := hρ _ _ hx
                simp only [Conc] at hcx
                obtain ⟨y, hy, hcy⟩ := hcx
                refine ⟨#[y] ++ c.args.map ρ, ?_, ?_⟩
                · simp only [Array.toList_append, Array.toList_map]
                  simp only [List.singleton_append, Concs]
                  exact ⟨y, _, rfl, hcy, hc⟩
                · simp only [execOp, resolve, hcal, hy, Sem.run_bind, Sem.run_pure, Result.andThen_ok, invoke]
                  have h0 : (#[Value.iface ty y] ++ c.args.map ρ)[0]? = some (.iface ty y) := by rw [Array.getElem?_append_left (by simp)]; rfl
                  have hex : (#[Value.iface ty y] ++ c.args.map ρ).extract 1 (#[Value.iface ty y] ++ c.args.map ρ).size = c.args.map ρ := by
                    apply Array.ext'
                    simp [List.take_of_length_le]
                  rw [h0]
                  simp only [hex, callMethod, Sem.run_bind, run_program, Result.andThen_ok]
                  have hk : P.types.size + Made.depth = (P.types.size + Made.depth - 1) + 1 := by
                    have : 0 < Made.depth := by unfold Made.depth; omega
                    omega
                  rw [hk, method_ok hE (v := v) hr hm hpath hfun hd]
                  rfl
              · cases h
            · cases h
          · cases h
        · cases h
  case convert src dst x =>
    split at h
    · unfold convA at h
      (repeat' split at h) <;> first | cases h | (obtain ⟨_, _, e⟩ := Option.map_eq_some_iff.1 h; cases e)
    · cases h
  all_goals
    (repeat' split at h) <;> first | cases h | (obtain ⟨_, _, e⟩ := Option.map_eq_some_iff.1 h; cases e)

end
end Go.Proofs.YtmgpfkoomlgcoaaGreat.Ev
