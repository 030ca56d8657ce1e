/-
  Code and calls: what the evaluator finds, the model does.
-/
import Derived.Test.YtmgpfkoomlgcoaaGreatEvU
import Derived.Below
namespace Go.Proofs.YtmgpfkoomlgcoaaGreat.Ev

def AExit.ex : AExit → Exit
  | .normal => .normal
  | .exit id => .exit id
  | .goto l => .goto l
  | .ret => .ret

open Go.RowKit (Below) in
def OvOk (P : Program) (ov : Ov) : Prop :=
  ∀ f args v, ov f args = some v → ∀ γ w (xs : Array Value), Concs γ args xs.toList →
    (callFunc f xs).run P w = .ok (.enter f xs) w ∧ Calls P f xs w (fun e w' => ∃ x, e = .returned x ∧ Conc γ v x ∧ Below w.heap.size w w')
theorem noOv_ok (P : Program) : OvOk P noOv := fun f args v h => by simp [noOv] at h

section
variable {F : Frz} {P : Program} {E : Env} (hE : EnvOk P E)
include hE

theorem regionA_ok {cb : Cb} (hcb : CbOk P cb) {n id : Nat} (hn : n ≤ lim) {ops : Array Oper} {draw : Bool} {t t' : Tmps} {σ σ' : AS} (h : regionA E cb n ops draw t σ = some (t', σ')) {γ : Gam} {w : World} {a : Act} (hR : RelL F γ σ w) (hT : ConcT γ n t a) {Q : Exit → Act → World → Prop}
    (hQ : ∀ γ' a' w', RelL F γ' σ' w' → ConcT γ' n t' a' → Step γ σ γ' σ' → Q .normal a' w') : (Code.region id ops draw).wp P Q a w := by
  unfold regionA at h
  cases draw with
  | false =>
    simp only [] at h
    refine wp_region ?_
    have := runA_ok hE hcb hn (Q := Q) ops.toList 0 t t' σ σ' γ w a h (by simp) hR hT hQ
    simpa using this
  | true =>
    simp only [] at h
    split at h
    · cases h
    · rename_i hi
      have hrows := rows_ok hi
      refine wp_region_any hE.wide ?_
      refine drawn_ok hE hrows hn hcb (γ0 := γ) (σ0 := σ) hQ ops.size _ 0 _ [] t σ (fun _ => .no) γ _ a _ h ?_ ?_
      · have hno : ∀ q, ¬ Pending 0 (Array.replicate ops.size false) q := fun q hq => by have := hq.1; rw [has_zero] at this; cases this
        have hlist : ∀ j, (Array.replicate ops.size false).getD j false = false := fun j => by simp [Array.getElem?_replicate]; split <;> rfl
        refine ⟨fun r hr => ⟨hr, has_zero _⟩, fun r hr => .inr hr, ?_, fun r _ h => (by rw [has_zero] at h; cases h), fun r _ h => (by rw [hlist] at h; cases h), (by simp), fun q _ hq => absurd hq (hno q), fun q _ _ _ hq => absurd hq (hno q), fun q _ hq => absurd hq (hno q), hR.heap rfl, .refl _ _, ⟨hT.size, hT.defers, fun i v hv => hT.get i v ?_⟩⟩
        · have : ∀ (l : List Oper) (i : Nat), (rowsFrom ops i l).Pairwise (fun r q => r.i ≠ q.i) ∧ ∀ r ∈ rowsFrom ops i l, i ≤ r.i := by
            intro l
            induction l with
            | nil => intro i; simp [rowsFrom]
            | cons o l ih =>
              intro i
              obtain ⟨h1, h2⟩ := ih (i + 1)
              simp only [rowsFrom, List.pairwise_cons]
              refine ⟨⟨fun r hr => ?_, h1⟩, fun r hr => ?_⟩
              · have := h2 r hr; show i ≠ r.i; omega
              · rcases List.mem_cons.1 hr with rfl | hr
                · exact Nat.le_refl i
                · have := h2 r hr; omega
          exact (this ops.toList 0).1
        · rw [T.get_mask] at hv
          split at hv
          · cases hv
          · exact hv
      · exact Nat.le_trans List.count_le_length (by simp)

theorem evCode_ok {cb : Cb} (hcb : CbOk P cb) {n : Nat} (hn : n ≤ lim) : ∀ (f : Nat) (c : Code) (t : Tmps) (σ : AS) (e : AExit) (t' : Tmps) (σ' : AS), evCode E cb n f c t σ = some (e, t', σ') →
    ∀ (γ : Gam) (w : World) (a : Act) (Q : Exit → Act → World → Prop), RelL F γ σ w → ConcT γ n t a → (∀ γ' a' w', RelL F γ' σ' w' → ConcT γ' n t' a' → Step γ σ γ' σ' → Q e.ex a' w') → c.wp P Q a w := by
  intro f
  induction f using Nat.strongRecOn with
  | _ f ih =>
  intro c t σ e t' σ' h γ w a Q hR hT hQ
  cases f with
  | zero => simp [evCode] at h
  | succ f =>
  have ih0 := ih f (Nat.lt_succ_self f)
  have hpart : ∀ {b : Code} {t1 : Tmps} {σ1 : AS} {e1 : AExit}, evCode E cb n f b t σ = some (e1, t1, σ1) → ∀ {Q1 : Exit → Act → World → Prop}, (∀ γ1 a1 w1, RelL F γ1 σ1 w1 → ConcT γ1 n t1 a1 → Step γ σ γ1 σ1 → Q1 e1.ex a1 w1) → b.wp P Q1 a w :=
    fun hb _ hq => ih0 _ _ _ _ _ _ hb γ w a _ hR hT hq
  cases c
  case skip =>
    simp only [evCode, Option.some.injEq, Prod.mk.injEq] at h
    obtain ⟨rfl, rfl, rfl⟩ := h
    exact wp_skip (hQ γ a w hR hT (.refl _ _))
  case label l =>
    simp only [evCode, Option.some.injEq, Prod.mk.injEq] at h
    obtain ⟨rfl, rfl, rfl⟩ := h
    exact wp_label (hQ γ a w hR hT (.refl _ _))
  case ret =>
    simp only [evCode, Option.some.injEq, Prod.mk.injEq] at h
    obtain ⟨rfl, rfl, rfl⟩ := h
    exact wp_ret (hQ γ a w hR hT (.refl _ _))
  case exit id =>
    simp only [evCode, Option.some.injEq, Prod.mk.injEq] at h
    obtain ⟨rfl, rfl, rfl⟩ := h
    exact wp_exit (hQ γ a w hR hT (.refl _ _))
  case goto l =>
    simp only [evCode, Option.some.injEq, Prod.mk.injEq] at h
    obtain ⟨rfl, rfl, rfl⟩ := h
    exact wp_goto (hQ γ a w hR hT (.refl _ _))
  case region id ops draw =>
    simp only [evCode] at h
    obtain ⟨⟨t1, σ1⟩, h1, h2⟩ := Option.map_eq_some_iff.1 h
    simp only [Prod.mk.injEq] at h2
    obtain ⟨rfl, rfl, rfl⟩ := h2
    exact regionA_ok hE hcb hn h1 hR hT hQ
  case seq x y =>
    simp only [evCode] at h
    refine wp_seq ?_
    split at h
    · rename_i t1 σ1 h1
      exact hpart h1 fun γ1 a1 w1 hR1 hT1 hS1 => ih0 _ _ _ _ _ _ h γ1 w1 a1 _ hR1 hT1 fun γ2 a2 w2 hR2 hT2 hS2 => hQ γ2 a2 w2 hR2 hT2 (hS1.trans hS2)
    · rename_i hne
      refine hpart h fun γ1 a1 w1 hR1 hT1 hS1 => ?_
      have := hQ γ1 a1 w1 hR1 hT1 hS1
      cases e with
      | normal => exact absurd h (hne _ _)
      | _ => exact this
  case cond c x y =>
    simp only [evCode] at h
    split at h
    · rename_i hc
      have := hT.opnd _ _ hc
      rw [conc_lit_iff] at this
      exact wp_cond_true this (hpart h hQ)
    · rename_i hc
      have := hT.opnd _ _ hc
      rw [conc_lit_iff] at this
      exact wp_cond_false this (hpart h hQ)
    · cases h
  case block id b =>
    simp only [evCode] at h
    refine wp_block ?_
    split at h
    · rename_i id' t1 σ1 h1
      refine hpart h1 fun γ1 a1 w1 hR1 hT1 hS1 => ?_
      simp only [AExit.ex, Exit.inBlock]
      split at h <;> rename_i hb <;> simp only [Option.some.injEq, Prod.mk.injEq] at h <;> obtain ⟨rfl, rfl, rfl⟩ := h
      · rw [if_pos (Nat.eq_of_beq_eq_true hb)]; exact hQ γ1 a1 w1 hR1 hT1 hS1
      · rw [if_neg (Nat.ne_of_beq_eq_false hb)]; exact hQ γ1 a1 w1 hR1 hT1 hS1
    · rename_i hne
      refine hpart h fun γ1 a1 w1 hR1 hT1 hS1 => ?_
      have := hQ γ1 a1 w1 hR1 hT1 hS1
      cases e with
      | exit id' => exact absurd h (hne _ _ _)
      | _ => exact this
  case loop b =>
    have key : ∀ (m : Nat), m ≤ f + 1 → ∀ (t : Tmps) (σ : AS), evCode E cb n m (.loop b) t σ = some (e, t', σ') → ∀ (γ1 : Gam) (w : World) (a : Act), RelL F γ1 σ w → ConcT γ1 n t a → (∀ γ' a' w', RelL F γ' σ' w' → ConcT γ' n t' a' → Step γ1 σ γ' σ' → Q e.ex a' w') → Code.rounds P b Q m a w := by
      intro m
      induction m with
      | zero => intro _ t σ h; simp [evCode] at h
      | succ m ihm =>
        intro hm t σ h γ1 w a hR hT hQ
        simp only [evCode] at h
        rw [rounds_succ]
        split at h
        · rename_i t1 σ1 h1
          exact ih m (by omega) _ _ _ _ _ _ h1 γ1 w a _ hR hT fun γ2 a2 w2 hR2 hT2 hS2 => ihm (by omega) t1 σ1 h γ2 w2 a2 hR2 hT2 fun γ3 a3 w3 hR3 hT3 hS3 => hQ γ3 a3 w3 hR3 hT3 (hS2.trans hS3)
        · rename_i hne
          refine ih m (by omega) _ _ _ _ _ _ h γ1 w a _ hR hT fun γ2 a2 w2 hR2 hT2 hS2 => ?_
          have := hQ γ2 a2 w2 hR2 hT2 hS2
          cases e with
          | normal => exact absurd h (hne _ _)
          | _ => exact this
    exact wp_loop_rounds (f + 1) (key (f + 1) (Nat.le_refl _) t σ h γ w a hR hT hQ)
  case scope b =>
    simp only [evCode] at h
    refine wp_scope_straight ?_
    split at h
    · cases h
    · rename_i hne
      refine hpart h fun γ1 a1 w1 hR1 hT1 hS1 => ?_
      have := hQ γ1 a1 w1 hR1 hT1 hS1
      cases e with
      | goto l => exact absurd h (hne _ _ _)
      | _ => exact this
  all_goals simp [evCode] at h

omit hE in
theorem setArgs_get : ∀ (l : List AV) (k : Nat) (t : Tmps) (i : Nat), k + l.length ≤ lim → (setArgs k l t).get i = if k ≤ i ∧ i < k + l.length then l[i - k]? else t.get i
  | [], k, t, i, _ => by
    simp only [setArgs, List.length_nil]
    rw [if_neg (by omega)]
  | v :: l, k, t, i, h => by
    simp only [setArgs, List.length_cons] at h ⊢
    rw [setArgs_get l (k + 1) _ i (by omega), T.get_put _ _ _ _ (by omega)]
    by_cases e : i = k
    · subst e
      rw [if_neg (by omega), if_pos rfl, if_pos (by omega)]
      simp
    · by_cases hr : k + 1 ≤ i ∧ i < k + 1 + l.length
      · rw [if_pos hr, if_pos (by omega)]
        rw [show i - k = (i - (k + 1)) + 1 by omega, List.getElem?_cons_succ]
      · rw [if_neg hr, if_neg e, if_neg (by omega)]

theorem resultA_ok {γ : Gam} {σ : AS} {w : World} {n : Nat} {t : Tmps} {a : Act} (hR : RelL F γ σ w) (hT : ConcT γ n t a) {r : ResultVar} {v : AV} (h : resultA E t σ r = some v) :
    ∃ x, ((match r with | .tmp i => pure (a.tmps.getD i undef) | .cell b ty => do loadVar ty (← asAddr (a.tmps.getD b undef)) : Sem Value)).run P w = .ok x w ∧ Conc γ v x := by
  cases r with
  | tmp i =>
    simp only [resultA] at h
    obtain ⟨x, h1, h2⟩ := hT.get i v h
    exact ⟨x, by simp [h1], h2⟩
  | cell b ty =>
    simp only [resultA] at h
    split at h
    · rename_i o off hb
      obtain ⟨x, h1, h2⟩ := hT.get b _ hb
      simp only [Conc] at h2
      obtain ⟨ad, rfl, hat⟩ := h2
      obtain ⟨y, h3, h4⟩ := load_ok hE hR.toRel h hat
      exact ⟨y, by simp [h1, asAddr, h3], h4⟩
    · cases h

theorem results_list {γ : Gam} {σ : AS} {w : World} {n : Nat} {t : Tmps} {a : Act} (hR : RelL F γ σ w) (hT : ConcT γ n t a) : ∀ {l : List ResultVar} {vs : List AV}, allSome (l.map (resultA E t σ)) = some vs →
    ∃ xs, (l.mapM (fun r => match r with | .tmp i => pure (a.tmps.getD i undef) | .cell b ty => do loadVar ty (← asAddr (a.tmps.getD b undef)) : ResultVar → Sem Value)).run P w = .ok xs w ∧ Concs γ vs xs
  | [], vs, h => by
    simp only [List.map_nil, allSome, Option.some.injEq] at h
    subst h
    exact ⟨[], by simp, by simp [Concs]⟩
  | r :: l, vs, h => by
    simp only [List.map_cons] at h
    cases hr : resultA E t σ r with
    | none => rw [hr] at h; simp [allSome] at h
    | some v =>
      rw [hr] at h
      simp only [allSome] at h
      cases hl : allSome (l.map (resultA E t σ)) with
      | none => rw [hl] at h; simp at h
      | some vs' =>
        rw [hl] at h
        simp only [Option.some.injEq] at h
        subst h
        obtain ⟨x, h1, h2⟩ := resultA_ok hE hR hT hr
        obtain ⟨xs, h3, h4⟩ := results_list hR hT hl
        refine ⟨x :: xs, ?_, ?_⟩
        · rw [List.mapM_cons, Sem.run_bind, h1, Result.andThen_ok, Sem.run_bind, h3, Result.andThen_ok]
          rfl
        · simp only [Concs]; exact ⟨x, xs, rfl, h2, h4⟩

theorem results_ok {γ : Gam} {σ : AS} {w : World} {n : Nat} {t : Tmps} {a : Act} (hR : RelL F γ σ w) (hT : ConcT γ n t a) {fn : Func} {v : AV} (h : resultsA E t σ fn.results.toList = some v) :
    ∃ x, (results fn a.tmps).run P w = .ok x w ∧ Conc γ v x := by
  unfold resultsA at h
  have hrun : ∀ xs, (fn.results.toList.mapM (fun r => match r with | .tmp i => pure (a.tmps.getD i undef) | .cell b ty => do loadVar ty (← asAddr (a.tmps.getD b undef)) : ResultVar → Sem Value)).run P w = .ok xs w →
      (results fn a.tmps).run P w = .ok (if h : xs.toArray.size = 1 then xs.toArray[0] else .tuple xs.toArray) w := by
    intro xs hx
    unfold results
    rw [Sem.run_bind, Array.mapM_eq_mapM_toList, Sem.run_map]
    have hx' : (fn.results.toList.mapM (fun | .tmp t => pure (a.tmps.getD t undef) | .cell b t => do loadVar t (← asAddr (a.tmps.getD b undef)) : ResultVar → Sem Value)).run P w = .ok xs w := hx
    erw [hx']
    rfl
  split at h
  · rename_i u hl
    simp only [Option.some.injEq] at h; subst h
    obtain ⟨xs, h1, h2⟩ := results_list hE hR hT hl
    simp only [Concs] at h2
    obtain ⟨x, xs', rfl, hx, rfl⟩ := h2
    exact ⟨x, by rw [hrun _ h1]; rfl, hx⟩
  · rename_i hl
    simp only [Option.some.injEq] at h; subst h
    obtain ⟨xs, h1, h2⟩ := results_list hE hR hT hl
    simp only [Concs] at h2
    subst h2
    exact ⟨_, hrun _ h1, conc_lit γ _⟩
  · rename_i l hne1 hne0 hl
    simp only [Option.some.injEq] at h; subst h
    obtain ⟨xs, h1, h2⟩ := results_list hE hR hT hl
    refine ⟨_, hrun _ h1, ?_⟩
    have hlen := concs_length h2
    rw [dif_neg (by
      intro e
      simp at e
      rw [hlen] at e
      obtain ⟨u, rfl⟩ := List.length_eq_one_iff.1 e
      exact hne1 u rfl)]
    simp only [Conc]
    exact ⟨_, rfl, by simpa using h2⟩
  · cases h

theorem evCall_ok {ov : Ov} (hov : OvOk P ov) : ∀ d, CbOk P (evCall E ov d)
  | 0 => fun f args σ v σ' h => by simp [evCall] at h
  | d + 1 => fun f args σ v σ' h F γ w xs hR hxs => by
    simp only [evCall] at h
    cases hv : ov f args with
    | some u =>
      rw [hv] at h
      simp only [Option.some.injEq, Prod.mk.injEq] at h
      obtain ⟨rfl, rfl⟩ := h
      obtain ⟨c1, c2⟩ := hov f args u hv γ w xs hxs
      refine ⟨c1, fun R hRet => c2.mono ?_⟩
      rintro e w' ⟨x, rfl, hx, hb⟩
      exact hRet γ x w' hx (hR.grown hb) (.refl γ _)
    | none =>
    rw [hv] at h
    simp only [] at h
    cases hf : E.fn f with
    | none => rw [hf] at h; cases h
    | some fn =>
      rw [hf] at h
      simp only [] at h
      obtain ⟨hfn, hcall⟩ := hE.fn f fn hf
      refine ⟨hcall xs w, fun R hRet => ?_⟩
      cases hb : fn.body with
      | none => rw [hb] at h; cases h
      | some c =>
        rw [hb] at h
        simp only [] at h
        split at h
        · cases h
        · rename_i hle
          simp only [Bool.and_eq_true] at hle
          have h1 := Nat.le_of_ble_eq_true hle.1
          have h2 := Nat.le_of_ble_eq_true hle.2
          have hlen := concs_length hxs
          have hsz : xs.size = args.length := by simpa using hlen
          have hlim : fn.ntmps ≤ lim := by unfold lim; omega
          have hT : ConcT γ fn.ntmps (setArgs 0 args .e) { tmps := xs ++ Array.replicate (fn.ntmps - xs.size) undef, defers := [] } := by
            refine ⟨by simp; omega, rfl, fun i u hu => ?_⟩
            rw [setArgs_get _ _ _ _ (by omega)] at hu
            split at hu
            · rename_i hi
              obtain ⟨x, h3, h4⟩ := concs_get hxs i u (by simpa using hu)
              refine ⟨x, ?_, h4⟩
              simp only []
              rw [Array.getElem?_append_left (by omega)]
              simpa using h3
            · simp [T.get] at hu
          refine calls_of_wp hfn hb ?_
          split at h
          · rename_i t1 σ1 hc
            obtain ⟨u, hu, hu'⟩ := Option.map_eq_some_iff.1 h
            simp only [Prod.mk.injEq] at hu'
            obtain ⟨rfl, rfl⟩ := hu'
            refine evCode_ok hE (evCall_ok hov d) hlim _ _ _ _ _ _ _ hc γ w _ _ hR hT fun γ' a' w' hR' hT' hS' => ?_
            obtain ⟨x, h3, h4⟩ := results_ok hE hR' hT' hu
            exact ⟨hT'.defers, x, h3, hRet γ' x w' h4 hR' hS'⟩
          · rename_i t1 σ1 hc
            obtain ⟨u, hu, hu'⟩ := Option.map_eq_some_iff.1 h
            simp only [Prod.mk.injEq] at hu'
            obtain ⟨rfl, rfl⟩ := hu'
            refine evCode_ok hE (evCall_ok hov d) hlim _ _ _ _ _ _ _ hc γ w _ _ hR hT fun γ' a' w' hR' hT' hS' => ?_
            obtain ⟨x, h3, h4⟩ := results_ok hE hR' hT' hu
            exact ⟨hT'.defers, x, h3, hRet γ' x w' h4 hR' hS'⟩
          · cases h

end
end Go.Proofs.YtmgpfkoomlgcoaaGreat.Ev
