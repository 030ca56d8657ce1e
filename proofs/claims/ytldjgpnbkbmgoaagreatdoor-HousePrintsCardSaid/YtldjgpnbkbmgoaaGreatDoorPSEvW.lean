/-
  Code and calls: what the evaluator finds, the model does. The environment's facts, out of a table: types of flat cells and their equality. The evaluator's word for a whole call: what comes back, and that nothing of old has turned. The seat's table for the evaluator: types and functions, and that the table tells the truth.
-/
import Derived.Test.YtldjgpnbkbmgoaaGreatDoorPSEvN
import Derived.Test.YtldjgpnbkbmgoaaGreatDoorProg
import Derived.Below
import Derived.Laws.StructEq
import Derived.ChangeKeysEq
import Derived.KernelRfl
set_option linter.unusedSimpArgs false
set_option linter.unusedVariables false
set_option maxRecDepth 100000
set_option maxHeartbeats 8000000
namespace Go.Proofs.YtldjgpnbkbmgoaaGreatDoor.Ev
def AExit.ex : AExit → Exit
  | .normal => .normal
  | .exit id => .exit id
  | .goto l => .goto l
  | .ret => .ret
theorem orHv_ok {P : Program} {a b : Cb} (ha : CbOk P a) (hb : CbOk P b) : CbOk P (orHv a b) := fun f args σ v σ' h => by
  unfold orHv at h
  split at h
  · rename_i r hr
    obtain ⟨u, τ⟩ := r
    simp only [Option.some.injEq, Prod.mk.injEq] at h
    obtain ⟨rfl, rfl⟩ := h
    exact ha f args σ u τ hr
  · exact hb f args σ v σ' h
section
variable {F : Frz} {P : Program} {E : Env} (hE : EnvOk P E)
include hE
theorem regionA_ok {cb : Cb} (hcb : CbOk P cb) {n id : Nat} (hn : n ≤ lim) {ops : Array Oper} {draw : Bool} {t t' : Tmps} {σ σ' : AS} (h : regionA E cb n ops draw t σ = some (t', σ')) {γ : Gam} {w : World} {a : Act} (hR : RelL F γ σ w) (hT : ConcT γ n t a) {Q : Exit → Act → World → Prop}
    (hQ : ∀ γ' a' w', RelL F γ' σ' w' → ConcT γ' n t' a' → Step γ σ γ' σ' → Q .normal a' w') : (Code.region id ops draw).wp P Q a w := by
  unfold regionA at h
  cases draw with
  | false =>
    simp only [] at h
    refine wp_region ?_
    have := runA_ok hE hcb hn (Q := Q) ops.toList 0 t t' σ σ' γ w a h (by simp) hR hT hQ
    simpa using this
  | true =>
    simp only [] at h
    split at h
    · cases h
    · rename_i hi
      have hrows := rows_ok hi
      refine wp_region_any hE.wide ?_
      refine drawn_ok hE hrows hn hcb (γ0 := γ) (σ0 := σ) hQ ops.size _ 0 _ [] t σ (fun _ => .no) γ _ a _ h ?_ ?_
      · have hno : ∀ q, ¬ Pending 0 (Array.replicate ops.size false) q := fun q hq => by have := hq.1; rw [has_zero] at this; cases this
        have hlist : ∀ j, (Array.replicate ops.size false).getD j false = false := fun j => by simp [Array.getElem?_replicate]; split <;> rfl
        refine ⟨fun r hr => ⟨hr, has_zero _⟩, fun r hr => .inr hr, ?_, fun r _ h => (by rw [has_zero] at h; cases h), fun r _ h => (by rw [hlist] at h; cases h), (by simp), fun q _ hq => absurd hq (hno q), fun q _ _ _ hq => absurd hq (hno q), fun q _ hq => absurd hq (hno q), hR.heap rfl, .refl _ _, ⟨hT.size, hT.defers, fun i v hv => hT.get i v ?_⟩⟩
        · have : ∀ (l : List Oper) (i : Nat), (rowsFrom ops i l).Pairwise (fun r q => r.i ≠ q.i) ∧ ∀ r ∈ rowsFrom ops i l, i ≤ r.i := by
            intro l
            induction l with
            | nil => intro i; simp [rowsFrom]
            | cons o l ih =>
              intro i
              obtain ⟨h1, h2⟩ := ih (i + 1)
              simp only [rowsFrom, List.pairwise_cons]
              refine ⟨⟨fun r hr => ?_, h1⟩, fun r hr => ?_⟩
              · have := h2 r hr; show i ≠ r.i; omega
              · rcases List.mem_cons.1 hr with rfl | hr
                · exact Nat.le_refl i
                · have := h2 r hr; omega
          exact (this ops.toList 0).1
        · rw [T.get_mask] at hv
          split at hv
          · cases hv
          · exact hv
      · exact Nat.le_trans List.count_le_length (by simp)
theorem evCode_ok {cb : Cb} (hcb : CbOk P cb) {n : Nat} (hn : n ≤ lim) : ∀ (f : Nat) (c : Code) (t : Tmps) (σ : AS) (e : AExit) (t' : Tmps) (σ' : AS), evCode E cb n f c t σ = some (e, t', σ') →
    ∀ (γ : Gam) (w : World) (a : Act) (Q : Exit → Act → World → Prop), RelL F γ σ w → ConcT γ n t a → (∀ γ' a' w', RelL F γ' σ' w' → ConcT γ' n t' a' → Step γ σ γ' σ' → Q e.ex a' w') → c.wp P Q a w := by
  intro f
  induction f using Nat.strongRecOn with
  | _ f ih =>
  intro c t σ e t' σ' h γ w a Q hR hT hQ
  cases f with
  | zero => simp [evCode] at h
  | succ f =>
  have ih0 := ih f (Nat.lt_succ_self f)
  have hpart : ∀ {b : Code} {t1 : Tmps} {σ1 : AS} {e1 : AExit}, evCode E cb n f b t σ = some (e1, t1, σ1) → ∀ {Q1 : Exit → Act → World → Prop}, (∀ γ1 a1 w1, RelL F γ1 σ1 w1 → ConcT γ1 n t1 a1 → Step γ σ γ1 σ1 → Q1 e1.ex a1 w1) → b.wp P Q1 a w :=
    fun hb _ hq => ih0 _ _ _ _ _ _ hb γ w a _ hR hT hq
  cases c
  case skip =>
    simp only [evCode, Option.some.injEq, Prod.mk.injEq] at h
    obtain ⟨rfl, rfl, rfl⟩ := h
    exact wp_skip (hQ γ a w hR hT (.refl _ _))
  case label l =>
    simp only [evCode, Option.some.injEq, Prod.mk.injEq] at h
    obtain ⟨rfl, rfl, rfl⟩ := h
    exact wp_label (hQ γ a w hR hT (.refl _ _))
  case ret =>
    simp only [evCode, Option.some.injEq, Prod.mk.injEq] at h
    obtain ⟨rfl, rfl, rfl⟩ := h
    exact wp_ret (hQ γ a w hR hT (.refl _ _))
  case exit id =>
    simp only [evCode, Option.some.injEq, Prod.mk.injEq] at h
    obtain ⟨rfl, rfl, rfl⟩ := h
    exact wp_exit (hQ γ a w hR hT (.refl _ _))
  case goto l =>
    simp only [evCode, Option.some.injEq, Prod.mk.injEq] at h
    obtain ⟨rfl, rfl, rfl⟩ := h
    exact wp_goto (hQ γ a w hR hT (.refl _ _))
  case region id ops draw =>
    simp only [evCode] at h
    obtain ⟨⟨t1, σ1⟩, h1, h2⟩ := Option.map_eq_some_iff.1 h
    simp only [Prod.mk.injEq] at h2
    obtain ⟨rfl, rfl, rfl⟩ := h2
    exact regionA_ok hE hcb hn h1 hR hT hQ
  case seq x y =>
    simp only [evCode] at h
    refine wp_seq ?_
    split at h
    · rename_i t1 σ1 h1
      exact hpart h1 fun γ1 a1 w1 hR1 hT1 hS1 => ih0 _ _ _ _ _ _ h γ1 w1 a1 _ hR1 hT1 fun γ2 a2 w2 hR2 hT2 hS2 => hQ γ2 a2 w2 hR2 hT2 (hS1.trans hS2)
    · rename_i hne
      refine hpart h fun γ1 a1 w1 hR1 hT1 hS1 => ?_
      have := hQ γ1 a1 w1 hR1 hT1 hS1
      cases e with
      | normal => exact absurd h (hne _ _)
      | _ => exact this
  case cond c x y =>
    simp only [evCode] at h
    split at h
    · rename_i hc
      have := hT.opnd _ _ hc
      rw [conc_lit_iff] at this
      exact wp_cond_true this (hpart h hQ)
    · rename_i hc
      have := hT.opnd _ _ hc
      rw [conc_lit_iff] at this
      exact wp_cond_false this (hpart h hQ)
    · cases h
  case block id b =>
    simp only [evCode] at h
    refine wp_block ?_
    split at h
    · rename_i id' t1 σ1 h1
      refine hpart h1 fun γ1 a1 w1 hR1 hT1 hS1 => ?_
      simp only [AExit.ex, Exit.inBlock]
      split at h <;> rename_i hb <;> simp only [Option.some.injEq, Prod.mk.injEq] at h <;> obtain ⟨rfl, rfl, rfl⟩ := h
      · rw [if_pos (Nat.eq_of_beq_eq_true hb)]; exact hQ γ1 a1 w1 hR1 hT1 hS1
      · rw [if_neg (Nat.ne_of_beq_eq_false hb)]; exact hQ γ1 a1 w1 hR1 hT1 hS1
    · rename_i hne
      refine hpart h fun γ1 a1 w1 hR1 hT1 hS1 => ?_
      have := hQ γ1 a1 w1 hR1 hT1 hS1
      cases e with
      | exit id' => exact absurd h (hne _ _ _)
      | _ => exact this
  case loop b =>
    have key : ∀ (m : Nat), m ≤ f + 1 → ∀ (t : Tmps) (σ : AS), evCode E cb n m (.loop b) t σ = some (e, t', σ') → ∀ (γ1 : Gam) (w : World) (a : Act), RelL F γ1 σ w → ConcT γ1 n t a → (∀ γ' a' w', RelL F γ' σ' w' → ConcT γ' n t' a' → Step γ1 σ γ' σ' → Q e.ex a' w') → Code.rounds P b Q m a w := by
      intro m
      induction m with
      | zero => intro _ t σ h; simp [evCode] at h
      | succ m ihm =>
        intro hm t σ h γ1 w a hR hT hQ
        simp only [evCode] at h
        rw [rounds_succ]
        split at h
        · rename_i t1 σ1 h1
          exact ih m (by omega) _ _ _ _ _ _ h1 γ1 w a _ hR hT fun γ2 a2 w2 hR2 hT2 hS2 => ihm (by omega) t1 σ1 h γ2 w2 a2 hR2 hT2 fun γ3 a3 w3 hR3 hT3 hS3 => hQ γ3 a3 w3 hR3 hT3 (hS2.trans hS3)
        · rename_i hne
          refine ih m (by omega) _ _ _ _ _ _ h γ1 w a _ hR hT fun γ2 a2 w2 hR2 hT2 hS2 => ?_
          have := hQ γ2 a2 w2 hR2 hT2 hS2
          cases e with
          | normal => exact absurd h (hne _ _)
          | _ => exact this
    exact wp_loop_rounds (f + 1) (key (f + 1) (Nat.le_refl _) t σ h γ w a hR hT hQ)
  case scope b =>
    simp only [evCode] at h
    refine wp_scope_straight ?_
    split at h
    · cases h
    · rename_i hne
      refine hpart h fun γ1 a1 w1 hR1 hT1 hS1 => ?_
      have := hQ γ1 a1 w1 hR1 hT1 hS1
      cases e with
      | goto l => exact absurd h (hne _ _ _)
      | _ => exact this
  all_goals simp [evCode] at h
omit hE in
theorem setArgs_get : ∀ (l : List AV) (k : Nat) (t : Tmps) (i : Nat), k + l.length ≤ lim → (setArgs k l t).get i = if k ≤ i ∧ i < k + l.length then l[i - k]? else t.get i
  | [], k, t, i, _ => by
    simp only [setArgs, List.length_nil]
    rw [if_neg (by omega)]
  | v :: l, k, t, i, h => by
    simp only [setArgs, List.length_cons] at h ⊢
    rw [setArgs_get l (k + 1) _ i (by omega), T.get_put _ _ _ _ (by omega)]
    by_cases e : i = k
    · subst e
      rw [if_neg (by omega), if_pos rfl, if_pos (by omega)]
      simp
    · by_cases hr : k + 1 ≤ i ∧ i < k + 1 + l.length
      · rw [if_pos hr, if_pos (by omega)]
        rw [show i - k = (i - (k + 1)) + 1 by omega, List.getElem?_cons_succ]
      · rw [if_neg hr, if_neg e, if_neg (by omega)]
theorem resultA_ok {γ : Gam} {σ : AS} {w : World} {n : Nat} {t : Tmps} {a : Act} (hR : RelL F γ σ w) (hT : ConcT γ n t a) {r : ResultVar} {v : AV} (h : resultA E t σ r = some v) :
    ∃ x, ((match r with | .tmp i => pure (a.tmps.getD i undef) | .cell b ty => do loadVar ty (← asAddr (a.tmps.getD b undef)) : Sem Value)).run P w = .ok x w ∧ Conc γ v x := by
  cases r with
  | tmp i =>
    simp only [resultA] at h
    obtain ⟨x, h1, h2⟩ := hT.get i v h
    exact ⟨x, by simp [h1], h2⟩
  | cell b ty =>
    simp only [resultA] at h
    split at h
    · rename_i o off hb
      obtain ⟨x, h1, h2⟩ := hT.get b _ hb
      simp only [Conc] at h2
      obtain ⟨ad, rfl, hat⟩ := h2
      obtain ⟨y, h3, h4⟩ := load_ok hE hR.toRel h hat
      exact ⟨y, by simp [h1, asAddr, h3], h4⟩
    · cases h
theorem results_list {γ : Gam} {σ : AS} {w : World} {n : Nat} {t : Tmps} {a : Act} (hR : RelL F γ σ w) (hT : ConcT γ n t a) : ∀ {l : List ResultVar} {vs : List AV}, allSome (l.map (resultA E t σ)) = some vs →
    ∃ xs, (l.mapM (fun r => match r with | .tmp i => pure (a.tmps.getD i undef) | .cell b ty => do loadVar ty (← asAddr (a.tmps.getD b undef)) : ResultVar → Sem Value)).run P w = .ok xs w ∧ Concs γ vs xs
  | [], vs, h => by
    simp only [List.map_nil, allSome, Option.some.injEq] at h
    subst h
    exact ⟨[], by simp, by simp [Concs]⟩
  | r :: l, vs, h => by
    simp only [List.map_cons] at h
    cases hr : resultA E t σ r with
    | none => rw [hr] at h; simp [allSome] at h
    | some v =>
      rw [hr] at h
      simp only [allSome] at h
      cases hl : allSome (l.map (resultA E t σ)) with
      | none => rw [hl] at h; simp at h
      | some vs' =>
        rw [hl] at h
        simp only [Option.some.injEq] at h
        subst h
        obtain ⟨x, h1, h2⟩ := resultA_ok hE hR hT hr
        obtain ⟨xs, h3, h4⟩ := results_list hR hT hl
        refine ⟨x :: xs, ?_, ?_⟩
        · rw [List.mapM_cons, Sem.run_bind, h1, Result.andThen_ok, Sem.run_bind, h3, Result.andThen_ok]
          rfl
        · simp only [Concs]; exact ⟨x, xs, rfl, h2, h4⟩
theorem results_ok {γ : Gam} {σ : AS} {w : World} {n : Nat} {t : Tmps} {a : Act} (hR : RelL F γ σ w) (hT : ConcT γ n t a) {fn : Func} {v : AV} (h : resultsA E t σ fn.results.toList = some v) :
    ∃ x, (results fn a.tmps).run P w = .ok x w ∧ Conc γ v x := by
  unfold resultsA at h
  have hrun : ∀ xs, (fn.results.toList.mapM (fun r => match r with | .tmp i => pure (a.tmps.getD i undef) | .cell b ty => do loadVar ty (← asAddr (a.tmps.getD b undef)) : ResultVar → Sem Value)).run P w = .ok xs w →
      (results fn a.tmps).run P w = .ok (if h : xs.toArray.size = 1 then xs.toArray[0] else .tuple xs.toArray) w := by
    intro xs hx
    unfold results
    rw [Sem.run_bind, Array.mapM_eq_mapM_toList, Sem.run_map]
    have hx' : (fn.results.toList.mapM (fun | .tmp t => pure (a.tmps.getD t undef) | .cell b t => do loadVar t (← asAddr (a.tmps.getD b undef)) : ResultVar → Sem Value)).run P w = .ok xs w := hx
    erw [hx']
    rfl
  split at h
  · rename_i u hl
    simp only [Option.some.injEq] at h; subst h
    obtain ⟨xs, h1, h2⟩ := results_list hE hR hT hl
    simp only [Concs] at h2
    obtain ⟨x, xs', rfl, hx, rfl⟩ := h2
    exact ⟨x, by rw [hrun _ h1]; rfl, hx⟩
  · rename_i hl
    simp only [Option.some.injEq] at h; subst h
    obtain ⟨xs, h1, h2⟩ := results_list hE hR hT hl
    simp only [Concs] at h2
    subst h2
    exact ⟨_, hrun _ h1, conc_lit γ _⟩
  · rename_i l hne1 hne0 hl
    simp only [Option.some.injEq] at h; subst h
    obtain ⟨xs, h1, h2⟩ := results_list hE hR hT hl
    refine ⟨_, hrun _ h1, ?_⟩
    have hlen := concs_length h2
    rw [dif_neg (by
      intro e
      simp at e
      rw [hlen] at e
      obtain ⟨u, rfl⟩ := List.length_eq_one_iff.1 e
      exact hne1 u rfl)]
    simp only [Conc]
    exact ⟨_, rfl, by simpa using h2⟩
  · cases h
theorem evCall_ok {hv : Cb} (hov : CbOk P hv) : ∀ d, CbOk P (evCall E hv d)
  | 0 => fun f args σ v σ' h => by simp [evCall] at h
  | d + 1 => fun f args σ v σ' h F γ w xs hR hxs => by
    simp only [evCall] at h
    cases hv : hv f args σ with
    | some r =>
      obtain ⟨u, τ⟩ := r
      rw [hv] at h
      simp only [Option.some.injEq, Prod.mk.injEq] at h
      obtain ⟨rfl, rfl⟩ := h
      exact hov f args σ u τ hv F γ w xs hR hxs
    | none =>
    rw [hv] at h
    simp only [] at h
    cases hf : E.fn f with
    | none => rw [hf] at h; cases h
    | some fn =>
      rw [hf] at h
      simp only [] at h
      obtain ⟨hfn, hcall⟩ := hE.fn f fn hf
      refine ⟨hcall xs w, fun R hRet => ?_⟩
      cases hb : fn.body with
      | none => rw [hb] at h; cases h
      | some c =>
        rw [hb] at h
        simp only [] at h
        split at h
        · cases h
        · rename_i hle
          simp only [Bool.and_eq_true] at hle
          have h1 := Nat.le_of_ble_eq_true hle.1
          have h2 := Nat.le_of_ble_eq_true hle.2
          have hlen := concs_length hxs
          have hsz : xs.size = args.length := by simpa using hlen
          have hlim : fn.ntmps ≤ lim := by unfold lim; omega
          have hT : ConcT γ fn.ntmps (setArgs 0 args .e) { tmps := xs ++ Array.replicate (fn.ntmps - xs.size) undef, defers := [] } := by
            refine ⟨by simp; omega, rfl, fun i u hu => ?_⟩
            rw [setArgs_get _ _ _ _ (by omega)] at hu
            split at hu
            · rename_i hi
              obtain ⟨x, h3, h4⟩ := concs_get hxs i u (by simpa using hu)
              refine ⟨x, ?_, h4⟩
              simp only []
              rw [Array.getElem?_append_left (by omega)]
              simpa using h3
            · simp [T.get] at hu
          refine calls_of_wp hfn hb ?_
          split at h
          · rename_i t1 σ1 hc
            obtain ⟨u, hu, hu'⟩ := Option.map_eq_some_iff.1 h
            simp only [Prod.mk.injEq] at hu'
            obtain ⟨rfl, rfl⟩ := hu'
            refine evCode_ok hE (evCall_ok hov d) hlim _ _ _ _ _ _ _ hc γ w _ _ hR hT fun γ' a' w' hR' hT' hS' => ?_
            obtain ⟨x, h3, h4⟩ := results_ok hE hR' hT' hu
            exact ⟨hT'.defers, x, h3, hRet γ' x w' h4 hR' hS'⟩
          · rename_i t1 σ1 hc
            obtain ⟨u, hu, hu'⟩ := Option.map_eq_some_iff.1 h
            simp only [Prod.mk.injEq] at hu'
            obtain ⟨rfl, rfl⟩ := hu'
            refine evCode_ok hE (evCall_ok hov d) hlim _ _ _ _ _ _ _ hc γ w _ _ hR hT fun γ' a' w' hR' hT' hS' => ?_
            obtain ⟨x, h3, h4⟩ := results_ok hE hR' hT' hu
            exact ⟨hT'.defers, x, h3, hRet γ' x w' h4 hR' hS'⟩
          · cases h
end
end Go.Proofs.YtldjgpnbkbmgoaaGreatDoor.Ev

namespace Go.Proofs.YtldjgpnbkbmgoaaGreatDoor.Ev
def kindOf : TypeDesc → Option Nat
  | .bool => some 0
  | .int _ => some 1
  | .string => some 2
  | _ => none
def flatParts (go : TypeId → Option (List Nat)) : Nat → List (TypeId × Nat) → Option (List Nat)
  | _, [] => some []
  | off, (t, o) :: l => match Nat.beq o off, go t with
    | true, some ks => (flatParts go (off + ks.length) l).map (ks ++ ·)
    | _, _ => none
def sized (n : Nat) : Option (List Nat) → Option (List Nat)
  | some ks => match Nat.beq ks.length n with
    | true => some ks
    | false => none
  | none => none
def flatK (E : Env) : Nat → TypeId → Option (List Nat)
  | 0, _ => none
  | d + 1, t => match E.ty t with
    | none => none
    | some r => match r.und with
      | .struct fs => match r.flat.isSome && fs.toList.all (fun f => f.name != "_") with
        | true => sized r.info.size (flatParts (flatK E d) 0 (fs.toList.map fun f => (f.type, f.offset)))
        | false => none
      | .array n e => match E.ty e with
        | some er => sized r.info.size (flatParts (flatK E d) 0 ((List.range n).map fun i => (e, i * er.info.size)))
        | none => none
      | .bool => some [0]
      | .int _ => some [1]
      | .string => some [2]
      | _ => none
def keyOk (E : Env) (r : TyRow) : Bool :=
  match r.und with
  | .array k e => match E.ty e with
    | some er => (kindOf er.und).isSome && Nat.beq er.info.size 1 && Nat.beq k r.kinds.length
    | none => false
  | _ => true
def flatOk (E : Env) (t : TypeId) (r : TyRow) : Bool :=
  match r.flat with
  | none => true
  | some n => (match flatK E 8 t with
    | some ks => decide (ks = r.kinds)
    | none => false) && Nat.beq r.kinds.length n && keyOk E r && isAggD r.und
structure Facts (P : Program) (E : Env) : Prop where
  info : ∀ t r, E.ty t = some r → ∀ w, (typeInfo t).run P w = .ok r.info w
  und : ∀ t r, E.ty t = some r → P.underlying t = some r.und
  fn : ∀ f fn, E.fn f = some fn → P.funcs[f]? = some fn ∧ ∀ args w, (callFunc f args).run P w = .ok (.enter f args) w
  wide : P.follows .mixedOrders = true
  guard : ∀ t r, E.ty t = some r → r.flat ≠ none → P.eqGuardType P.depth t = false
  held : ∀ t r fs, E.ty t = some r → r.flat ≠ none → r.und = .struct fs → P.stoodInHeld t = false
  flat : ∀ t r, E.ty t = some r → flatOk E t r = true
theorem fits_length : ∀ {ks : List Nat} {l : List AV}, fits ks l = true → l.length = ks.length
  | [], [], _ => rfl
  | [], _ :: _, h => by simp [fits] at h
  | _ :: _, [], h => by simp [fits] at h
  | k :: ks, v :: l, h => by
    cases v with
    | lit u =>
      simp only [fits, Bool.and_eq_true] at h
      simp [fits_length h.2]
    | _ => simp [fits] at h
theorem fits_append : ∀ {k1 k2 : List Nat} {l : List AV}, fits (k1 ++ k2) l = true → fits k1 (l.take k1.length) = true ∧ fits k2 (l.drop k1.length) = true
  | [], k2, l, h => ⟨by simp [fits], by simpa using h⟩
  | k :: ks, k2, [], h => by simp [fits] at h
  | k :: ks, k2, v :: l, h => by
    cases v with
    | lit u =>
      simp only [List.cons_append, fits, Bool.and_eq_true] at h
      obtain ⟨h1, h2⟩ := fits_append h.2
      simp only [List.length_cons, List.take_succ_cons, List.drop_succ_cons, fits, Bool.and_eq_true]
      exact ⟨⟨h.1, h1⟩, h2⟩
    | _ => simp [fits] at h
theorem flatEq_append : ∀ (n : Nat) {a b : List AV} {c : Bool}, flatEq a b = some c → ∃ c1 c2, flatEq (a.take n) (b.take n) = some c1 ∧ flatEq (a.drop n) (b.drop n) = some c2 ∧ c = (c1 && c2)
  | 0, a, b, c, h => ⟨true, c, by simp [flatEq], by simpa using h, by simp⟩
  | n + 1, [], [], c, h => ⟨true, c, by simp [flatEq], by simpa using h, by simp⟩
  | n + 1, [], _ :: _, c, h => by simp [flatEq] at h
  | n + 1, x :: a, [], c, h => by cases x <;> simp [flatEq] at h
  | n + 1, x :: a, y :: b, c, h => by
    cases x with
    | lit u =>
      cases y with
      | lit v =>
        simp only [flatEq] at h
        cases hs : scalarEq u v with
        | none => rw [hs] at h; simp at h
        | some s =>
          cases hr : flatEq a b with
          | none => rw [hs, hr] at h; simp at h
          | some r =>
            rw [hs, hr] at h
            simp only [Option.some.injEq] at h
            obtain ⟨c1, c2, h1, h2, rfl⟩ := flatEq_append n hr
            refine ⟨s && c1, c2, ?_, by simpa using h2, ?_⟩
            · simp only [List.take_succ_cons, flatEq, hs, h1]
            · rw [← h, Bool.and_assoc]
      | _ => simp [flatEq] at h
    | _ => simp [flatEq] at h
def Pk (r : TyRow) (xs : List Value) (x : Value) : Prop :=
  match isAggD r.und with
  | true => x = .agg xs.toArray
  | false => xs = [x]
def eqParts (d : Nat) (xs ys : Array Value) : List (TypeId × Nat) → Sem Bool
  | [] => pure true
  | (t, o) :: l => do
    let a ← part t xs o
    let b ← part t ys o
    let r ← Op.equalIn d t a b
    if (!r) = true then pure false else eqParts d xs ys l
theorem eqFields_parts {d : Nat} {xs ys : Array Value} : ∀ (fs : List Field), fs.all (fun f => f.name != "_") = true → Op.eqFields d xs ys fs = eqParts d xs ys (fs.map fun f => (f.type, f.offset))
  | [], _ => rfl
  | f :: fs, h => by
    simp only [List.all_cons, Bool.and_eq_true, bne_iff_ne, ne_eq] at h
    simp only [Op.eqFields, List.map_cons, eqParts]
    rw [if_pos h.1, eqFields_parts fs (by simpa using h.2)]
theorem eqItems_parts {d : Nat} {e c : Nat} {xs ys : Array Value} : ∀ (is : List Nat), Op.eqItems d e c xs ys is = eqParts d xs ys (is.map fun i => (e, i * c))
  | [] => rfl
  | i :: is => by simp only [Op.eqItems, List.map_cons, eqParts]; rw [eqItems_parts is]
section
variable {P : Program} {E : Env} (hF : Facts P E)
include hF
theorem part_flat {d : Nat} {t : TypeId} {ks : List Nat} {r : TyRow} (hk : flatK E d t = some ks) (hr : E.ty t = some r) (cs : List Value) (off : Nat) (hl : off + ks.length ≤ cs.length) (w : World) :
    ∃ x, (part t cs.toArray off).run P w = .ok x w ∧ Pk r ((cs.drop off).take ks.length) x := by
  cases d with
  | zero => simp [flatK] at hk
  | succ d =>
    simp only [flatK, hr] at hk
    have hagg : (isAgg t).run P w = .ok (isAggD r.und) w := by
      unfold isAgg
      simp only [Sem.run_bind, run_underlying (hF.und t r hr), Result.andThen_ok]
      cases r.und <;> rfl
    have hbig : isAggD r.und = true → ks.length = r.info.size → ∃ x, (part t cs.toArray off).run P w = .ok x w ∧ Pk r ((cs.drop off).take ks.length) x := fun ha hsz => by
      refine ⟨.agg (cs.toArray.extract off (off + r.info.size)), ?_, ?_⟩
      · unfold part
        simp only [Sem.run_bind, hagg, Result.andThen_ok, ha, if_true, Go.sizeOf, hF.info t r hr w, Sem.run_pure]
      · unfold Pk
        rw [ha]
        simp only []
        congr 1
        apply Array.ext'
        rw [Array.toList_extract, List.extract_eq_take_drop, Nat.add_sub_cancel_left, hsz]
    have hone : isAggD r.und = false → ks.length = 1 → ∃ x, (part t cs.toArray off).run P w = .ok x w ∧ Pk r ((cs.drop off).take ks.length) x := fun ha h1 => by
      have hlt : off < cs.length := by omega
      refine ⟨cs[off], ?_, ?_⟩
      · unfold part
        simp only [Sem.run_bind, hagg, Result.andThen_ok, ha, Bool.false_eq_true, if_false]
        rw [List.getElem?_toArray, List.getElem?_eq_getElem hlt]
        rfl
      · unfold Pk
        rw [ha]
        simp only []
        rw [h1, List.drop_eq_getElem_cons hlt]
        rfl
    have hsized : ∀ {n : Nat} {o : Option (List Nat)}, sized n o = some ks → ks.length = n := fun {n o} h => by
      unfold sized at h
      split at h
      · split at h
        · rename_i hb
          simp only [Option.some.injEq] at h
          subst h
          exact Nat.eq_of_beq_eq_true hb
        · cases h
      · cases h
    split at hk
    · rename_i hu
      split at hk
      · exact hbig (by rw [hu]; rfl) (hsized hk)
      · cases hk
    · rename_i hu
      split at hk
      · exact hbig (by rw [hu]; rfl) (hsized hk)
      · cases hk
    all_goals first
      | cases hk; done
      | (rename_i hu; simp only [Option.some.injEq] at hk; subst hk; exact hone (by rw [hu]; rfl) rfl)
omit hF in
theorem flatK_ty {d : Nat} {t : TypeId} {ks : List Nat} (h : flatK E d t = some ks) : ∃ r, E.ty t = some r := by
  cases d with
  | zero => simp [flatK] at h
  | succ d =>
    cases hr : E.ty t with
    | none => simp [flatK, hr] at h
    | some r => exact ⟨r, rfl⟩
theorem parts_ok {d D : Nat} (ih : ∀ t ks, flatK E d t = some ks → ∀ r, E.ty t = some r → ∀ (xs ys : List Value) (b : Bool) (w : World) (x y : Value), Pk r xs x → Pk r ys y → fits ks (xs.map .lit) = true → flatEq (xs.map .lit) (ys.map .lit) = some b → (Op.equalIn D t x y).run P w = .ok b w)
    (xs ys : List Value) (w : World) (hl : ys.length = xs.length) : ∀ (l : List (TypeId × Nat)) (off : Nat) (ks : List Nat) (b : Bool), off ≤ xs.length → flatParts (flatK E d) off l = some ks → fits ks ((xs.drop off).map .lit) = true → flatEq ((xs.drop off).map .lit) ((ys.drop off).map .lit) = some b →
    (eqParts D xs.toArray ys.toArray l).run P w = .ok b w
  | [], off, ks, b, ho, h, hf, he => by
    simp only [flatParts, Option.some.injEq] at h
    subst h
    have h1 := fits_length hf
    simp only [List.length_nil] at h1
    have h2 := List.length_eq_zero_iff.1 h1
    have h3 : (ys.drop off).map AV.lit = [] := by
      apply List.length_eq_zero_iff.1
      have := congrArg List.length h2
      simp at this ⊢
      omega
    rw [h2, h3] at he
    simp only [flatEq, Option.some.injEq] at he
    subst he
    rfl
  | (t, o) :: l, off, ks, b, ho, h, hf, he => by
    simp only [flatParts] at h
    split at h
    · rename_i k1 hb hk
      have hb := Nat.eq_of_beq_eq_true hb
      subst hb
      obtain ⟨k2, hk2, rfl⟩ := Option.map_eq_some_iff.1 h
      obtain ⟨f1, f2⟩ := fits_append hf
      obtain ⟨c1, c2, e1, e2, rfl⟩ := flatEq_append k1.length he
      have hlen := fits_length hf
      simp only [List.length_map, List.length_drop, List.length_append] at hlen
      obtain ⟨r, hr⟩ := flatK_ty hk
      have hxl : o + k1.length ≤ xs.length := by omega
      obtain ⟨x, px, qx⟩ := part_flat hF hk hr xs o hxl w
      obtain ⟨y, py, qy⟩ := part_flat hF hk hr ys o (by omega) w
      rw [← List.map_take] at f1 e1
      rw [← List.map_take] at e1
      have heq := ih t k1 hk r hr _ _ c1 w x y qx qy f1 e1
      simp only [eqParts, Sem.run_bind, px, py, heq, Result.andThen_ok]
      cases c1 with
      | false => rfl
      | true =>
        simp only [Bool.not_true, Bool.false_eq_true, if_false, Bool.true_and]
        rw [← List.map_drop, List.drop_drop] at f2 e2
        rw [← List.map_drop, List.drop_drop] at e2
        exact parts_ok ih xs ys w hl l _ k2 c2 hxl hk2 f2 e2
    · cases h
omit hF in
theorem info_of {t : TypeId} {i : TypeInfo} {w : World} (h : (typeInfo t).run P w = .ok i w) : P.info? t = some i := by
  unfold typeInfo at h
  simp only [Sem.run_bind, run_program, Result.andThen_ok] at h
  split at h
  · rename_i j hj
    simp only [Sem.run_pure, Result.ok.injEq, and_true] at h
    rw [hj, h]
  · exact absurd h (by intro h; cases h)
theorem flatK_eq : ∀ (d : Nat) (t : TypeId) (ks : List Nat), flatK E d t = some ks → ∀ r, E.ty t = some r → ∀ D, d ≤ D → ∀ (xs ys : List Value) (b : Bool) (w : World) (x y : Value), Pk r xs x → Pk r ys y → fits ks (xs.map .lit) = true → flatEq (xs.map .lit) (ys.map .lit) = some b → (Op.equalIn D t x y).run P w = .ok b w
  | 0, t, ks, h, _, _, _, _, _, _, _, _, _, _, _, _, _, _ => by simp [flatK] at h
  | d + 1, t, ks, h, r, hr, D + 1, hD, xs, ys, b, w, x, y, hx, hy, hf, he => by
    have hund := hF.und t r hr
    have hlen : ys.length = xs.length := by simpa using flatEq_length he
    have ih := fun t ks hk r hr => flatK_eq d t ks hk r hr D (by omega)
    have hs : ∀ {n : Nat} {o : Option (List Nat)}, sized n o = some ks → o = some ks := fun {n o} h => by
      unfold sized at h
      split at h
      · split at h
        · exact h
        · cases h
      · cases h
    simp only [flatK, hr] at h
    unfold Pk at hx hy
    split at h
    · rename_i fs hu
      split at h
      · rename_i hb
        rw [Bool.and_eq_true] at hb
        rw [hu] at hx hy hund
        simp only [isAggD] at hx hy
        subst hx; subst hy
        have hfo : P.fieldsOf t = fs := by simp [Program.fieldsOf, hund]
        have hne : r.flat ≠ none := by
          intro e
          rw [e] at hb
          cases hb.1
        rw [run_equalIn_struct w D t _ _ (by rw [hfo]; exact hund) (hF.held t r fs hr hne hu), hfo, eqFields_parts _ hb.2]
        exact parts_ok hF ih xs ys w hlen _ 0 ks b (Nat.zero_le _) (hs h) (by simpa using hf) (by simpa using he)
      · cases h
    · rename_i n e hu
      split at h
      · rename_i er her
        rw [hu] at hx hy hund
        simp only [isAggD] at hx hy
        subst hx; subst hy
        have hi := info_of (hF.info e er her w)
        rw [run_equalIn_array w D _ _ hund hi, eqItems_parts, show P.cellsOf e = er.info.size by simp [Program.cellsOf, hi]]
        exact parts_ok hF ih xs ys w hlen _ 0 ks b (Nat.zero_le _) (hs h) (by simpa using hf) (by simpa using he)
      · cases h
    · rename_i hu
      simp only [Option.some.injEq] at h
      subst h
      rw [hu] at hx hy hund
      simp only [isAggD] at hx hy
      subst hx; subst hy
      cases x <;> simp [fits] at hf
      cases y <;> simp [flatEq, scalarEq] at he
      subst he
      exact run_equalIn_bool w D t _ _ hund
    · rename_i k hu
      simp only [Option.some.injEq] at h
      subst h
      rw [hu] at hx hy hund
      simp only [isAggD] at hx hy
      subst hx; subst hy
      cases x <;> simp [fits] at hf
      cases y <;> simp [flatEq, scalarEq] at he
      split at he
      · rename_i hk
        rename_i heq
        split at heq
        · rename_i hkk
          subst hkk
          simp only [Option.some.injEq] at heq he hk
          subst heq
          subst hk
          rw [run_equalIn_int w D t _ _ _ _ hund, ← he, Bool.and_true]
        · cases heq
      · cases he
    · rename_i hu
      simp only [Option.some.injEq] at h
      subst h
      rw [hu] at hx hy hund
      simp only [isAggD] at hx hy
      subst hx; subst hy
      cases x <;> simp [fits] at hf
      cases y <;> simp [flatEq, scalarEq] at he
      subst he
      rw [run_equalIn_string w D t _ _ hund, ByteArray.toList_eq, ByteArray.toList_eq]
      congr 1
      rw [Bool.eq_iff_iff]
      simp
    · cases h
theorem checkKey_scalar {b : Bool} {n : Nat} {t : TypeId} {r : TyRow} (hr : E.ty t = some r) (hk : (kindOf r.und).isSome = true) (v : Value) (w : World) : (Instr.checkKey b (n + 1) t v).run P w = .ok () w := by
  unfold Instr.checkKey
  simp only [Sem.run_bind, run_underlying (hF.und t r hr), Result.andThen_ok]
  cases hu : r.und <;> rw [hu] at hk <;> simp [kindOf] at hk <;> rfl
theorem checkKey_array {b : Bool} {n : Nat} {t e : TypeId} {k : Nat} {r er : TyRow} (hr : E.ty t = some r) (hu : r.und = .array k e) (her : E.ty e = some er) (hk : (kindOf er.und).isSome = true) (hsz : er.info.size = 1) (xs : List Value) (hl : k ≤ xs.length) (w : World) :
    (Instr.checkKey b (n + 2) t (.agg xs.toArray)).run P w = .ok () w := by
  rw [Instr.checkKey]
  simp only [Sem.run_bind, run_underlying (hF.und t r hr), Result.andThen_ok, hu]
  simp only [Std.Legacy.Range.forIn_eq_forIn_range', Std.Legacy.Range.size, Nat.sub_zero, Nat.add_one_sub_one, Nat.div_one]
  have hsize : ∀ w, (sizeOf e).run P w = .ok 1 w := fun w => by simp [Go.sizeOf, hF.info e er her w, hsz]
  have key : ∀ (is : List Nat), (∀ i ∈ is, i < xs.length) → (forIn is PUnit.unit fun i x => do
      let s ← sizeOf e
      let p ← part e xs.toArray (i * s)
      Instr.checkKey b (n + 1) e p
      pure (ForInStep.yield PUnit.unit) : Sem PUnit).run P w = .ok PUnit.unit w := by
    intro is
    induction is with
    | nil => intro _; rfl
    | cons i is ih =>
      intro h
      have hi := h i (by simp)
      have hpart : (part e xs.toArray (i * 1)).run P w = .ok xs[i] w := by
        unfold part isAgg
        simp only [Sem.run_bind, run_underlying (hF.und e er her), Result.andThen_ok]
        have : xs.toArray[i * 1]? = some xs[i] := by rw [Nat.mul_one, List.getElem?_toArray, List.getElem?_eq_getElem hi]
        cases hue : er.und <;> rw [hue] at hk <;> simp [kindOf] at hk <;> simp [List.getElem?_eq_getElem hi]
      simp only [List.forIn_cons, Sem.run_bind, hsize, hpart, Result.andThen_ok, checkKey_scalar hF her hk, Sem.run_pure]
      exact ih fun j hj => h j (by simp [hj])
  have := key (List.range' 0 k) (fun i hi => by have := List.mem_range'_1.1 hi; omega)
  simp at this ⊢
  rw [this]
  rfl
theorem Facts.ok : EnvOk P E where
  info := hF.info
  und := hF.und
  fn := hF.fn
  wide := hF.wide
  guard := fun t r n hr hf => hF.guard t r hr (by rw [hf]; simp)
  eq := fun t r n hr hf xs ys b w hx hy hfit he => by
    have h := hF.flat t r hr
    unfold flatOk at h
    rw [hf] at h
    simp only [Bool.and_eq_true] at h
    obtain ⟨⟨⟨h1, h2⟩, h3⟩, h4⟩ := h
    split at h1
    · rename_i ks hk
      simp only [decide_eq_true_eq] at h1
      subst h1
      refine flatK_eq hF 8 t _ hk r hr Op.maxDepth (by unfold Op.maxDepth; omega) xs ys b w _ _ ?_ ?_ hfit he
      all_goals (unfold Pk; rw [h4])
    · cases h1
  key := fun t r n k e hr hf hu xs b w hl => by
    have h := hF.flat t r hr
    unfold flatOk at h
    rw [hf] at h
    simp only [Bool.and_eq_true] at h
    obtain ⟨⟨⟨h1, h2⟩, h3⟩, h4⟩ := h
    unfold keyOk at h3
    rw [hu] at h3
    simp only [] at h3
    split at h3
    · rename_i er her
      simp only [Bool.and_eq_true] at h3
      obtain ⟨⟨h7, h5⟩, h6⟩ := h3
      have h2 := Nat.eq_of_beq_eq_true h2
      have h5 := Nat.eq_of_beq_eq_true h5
      have h6 := Nat.eq_of_beq_eq_true h6
      exact checkKey_array hF hr hu her h7 h5 xs (by omega) w
    · cases h3
end
def T.All {α : Type} (p : Nat → α → Prop) : Nat → Nat → T α → Prop
  | _, _, .e => True
  | k, m, .n v l r => (match v with
    | none => True
    | some a => p k a) ∧ T.All p (k + m) (2 * m) l ∧ T.All p (k + 2 * m) (2 * m) r
theorem T.All.at {α : Type} {p : Nat → α → Prop} : ∀ {t : T α} {k m i : Nat} {a : α}, T.All p k m t → t.get i = some a → p (k + m * i) a
  | .e, k, m, i, a, _, h => by simp [T.get] at h
  | .n v l r, k, m, i, a, H, h => by
    obtain ⟨h1, h2, h3⟩ := H
    cases i with
    | zero =>
      simp only [T.get] at h
      subst h
      simpa using h1
    | succ i =>
      simp only [T.get] at h
      split at h
      · rename_i hb
        have hb := beq_t hb
        have := h2.at h
        have e : k + m + 2 * m * (i / 2) = k + m * (i + 1) := by
          have : i = 2 * (i / 2) := by omega
          rw [Nat.mul_assoc, Nat.mul_left_comm, ← this, Nat.mul_succ]
          omega
        rwa [e] at this
      · rename_i hb
        have hb := beq_f hb
        have := h3.at h
        have e : k + 2 * m + 2 * m * (i / 2) = k + m * (i + 1) := by
          have h2 : i + 1 = 2 * (i / 2) + 2 := by omega
          rw [h2, Nat.mul_add, Nat.mul_assoc, Nat.mul_left_comm 2 m, Nat.mul_comm 2 m]
          omega
        rwa [e] at this
structure TyP (P : Program) (E : Env) (t : Nat) (r : TyRow) : Prop where
  info : ∀ w, (typeInfo t).run P w = .ok r.info w
  und : P.underlying t = some r.und
  guard : r.flat ≠ none → P.eqGuardType P.depth t = false
  held : ∀ fs, r.flat ≠ none → r.und = .struct fs → P.stoodInHeld t = false
  flat : flatOk E t r = true
def FnP (P : Program) (f : Nat) (fn : Func) : Prop := P.funcs[f]? = some fn ∧ ∀ args w, (callFunc f args).run P w = .ok (.enter f args) w
theorem ty0 {P : Program} {E : Env} {t : Nat} {i : TypeInfo} {d : TypeDesc} (h1 : ∀ w, (typeInfo t).run P w = .ok i w) (h2 : P.underlying t = some d) : TyP P E t ⟨i, d, none, []⟩ :=
  ⟨h1, h2, fun h => absurd rfl h, fun _ h => absurd rfl h, rfl⟩
theorem tyS {P : Program} {E : Env} {t : Nat} {i : TypeInfo} {d : TypeDesc} {n : Nat} {ks : List Nat} (h1 : ∀ w, (typeInfo t).run P w = .ok i w) (h2 : P.underlying t = some d) (h3 : P.eqGuardType P.depth t = false) (h4 : P.stoodInHeld t = false)
    (h5 : flatOk E t ⟨i, d, some n, ks⟩ = true) : TyP P E t ⟨i, d, some n, ks⟩ :=
  ⟨h1, h2, fun _ => h3, fun _ _ _ => h4, h5⟩
theorem tyA {P : Program} {E : Env} {t : Nat} {i : TypeInfo} {d : TypeDesc} {n : Nat} {ks : List Nat} {k e : Nat} (hd : d = .array k e) (h1 : ∀ w, (typeInfo t).run P w = .ok i w) (h2 : P.underlying t = some d) (h3 : P.eqGuardType P.depth t = false)
    (h5 : flatOk E t ⟨i, d, some n, ks⟩ = true) : TyP P E t ⟨i, d, some n, ks⟩ :=
  ⟨h1, h2, fun _ => h3, fun _ _ h => (by subst hd; cases h), h5⟩
theorem facts_of {P : Program} {E : Env} {tys : T TyRow} {fns : T Func} (e1 : E.ty = tys.get) (e2 : E.fn = fns.get) (hw : P.follows .mixedOrders = true) (h1 : T.All (TyP P E) 0 1 tys) (h2 : T.All (FnP P) 0 1 fns) : Facts P E := by
  have ht : ∀ t r, E.ty t = some r → TyP P E t r := fun t r h => by
    rw [e1] at h
    have := h1.at h
    rwa [Nat.zero_add, Nat.one_mul] at this
  have hf : ∀ f fn, E.fn f = some fn → FnP P f fn := fun t r h => by
    rw [e2] at h
    have := h2.at h
    rwa [Nat.zero_add, Nat.one_mul] at this
  exact ⟨fun t r h => (ht t r h).info, fun t r h => (ht t r h).und, fun f fn h => hf f fn h, hw, fun t r h hn => (ht t r h).guard hn, fun t r fs h hn hu => (ht t r h).held fs hn hu, fun t r h => (ht t r h).flat⟩
end Go.Proofs.YtldjgpnbkbmgoaaGreatDoor.Ev
namespace Go.Proofs.YtldjgpnbkbmgoaaGreatDoor.Ev
open Go.RowKit (Below)
def evFlatO (E : Env) (hv : Cb) (d f : Nat) (args : List AV) : Option Value :=
  match evCall E hv d f args σe with
  | some (v, _) => v.flat
  | none => none
theorem evFlatO_ok {P : Program} {E : Env} (hE : EnvOk P E) {hv : Cb} (hov : CbOk P hv) {d f : Nat} {args : List AV} {v : Value} (h : evFlatO E hv d f args = some v) {xs : Array Value} (hx : Concs emp args xs.toList) (w : World) :
    Calls P f xs w (fun e w' => e = .returned v ∧ Below w.heap.size w w') := by
  unfold evFlatO at h
  split at h
  · rename_i u σ' hc
    exact (evCall_ok hE hov d f args σe u σ' hc (frz w emp) emp w xs (rel_start w) hx).2 _ fun γ' x w' hxv hR _ => ⟨by rw [flat_conc u v x h hxv], below_of hR.frame⟩
  · cases h
def Env.only (E : Env) (l : List Nat) : Env := { E with lone := memN l }
end Go.Proofs.YtldjgpnbkbmgoaaGreatDoor.Ev

namespace Go.Proofs.YtldjgpnbkbmgoaaGreatDoor
open Ev
noncomputable def tyTree : T TyRow := (.n none (.n none (.n (some ⟨Tryz.t3, Tryz.t3.desc, none, []⟩) (.n none (.n none (.n none (.n none (.n none (.n (some ⟨Tryz.t255, Tryz.t255.desc, none, []⟩) .e .e) .e) (.n (some ⟨Tryz.t191, Tryz.t190.desc, some 4, [1, 1, 1, 1]⟩) .e .e)) .e) (.n none (.n none (.n none (.n (some ⟨Tryz.t271, Tryz.t270.desc, some 6, [1, 1, 1, 1, 1, 1]⟩) .e .e) .e) .e) (.n none (.n (some ⟨Tryz.t175, Tryz.t175.desc, none, []⟩) .e .e) .e))) (.n (some ⟨Tryz.t23, Tryz.t23.desc, none, []⟩) (.n none (.n none (.n (some ⟨Tryz.t135, Tryz.t135.desc, none, []⟩) .e .e) .e) (.n none (.n (some ⟨Tryz.t167, Tryz.t167.desc, none, []⟩) .e .e) (.n (some ⟨Tryz.t231, Tryz.t231.desc, none, []⟩) .e .e))) (.n none .e (.n (some ⟨Tryz.t119, Tryz.t114.desc, none, []⟩) .e .e)))) (.n none (.n none (.n none (.n (some ⟨Tryz.t67, Tryz.t66.desc, none, []⟩) .e .e) .e) (.n none (.n none (.n none (.n (some ⟨Tryz.t275, Tryz.t275.desc, none, []⟩) .e .e) .e) .e) (.n none (.n none (.n (some ⟨Tryz.t307, Tryz.t239.desc, none, []⟩) .e .e) .e) .e))) (.n none (.n none (.n none (.n (some ⟨Tryz.t139, Tryz.t138.desc, none, []⟩) (.n (some ⟨Tryz.t267, Tryz.t267.desc, none, []⟩) .e .e) .e) .e) (.n none (.n (some ⟨Tryz.t171, Tryz.t171.desc, none, []⟩) (.n (some ⟨Tryz.t299, Tryz.t299.desc, some 8, [1, 1, 1, 1, 1, 1, 1, 1]⟩) .e .e) .e) .e)) (.n none (.n none (.n (some ⟨Tryz.t155, Tryz.t155.desc, some 20, [1, 1, 1, 1, 1, 1, 1, 1, 1, 1, 1, 1, 1, 1, 1, 1, 1, 1, 1, 1]⟩) (.n (some ⟨Tryz.t283, Tryz.t283.desc, none, []⟩) .e .e) .e) .e) (.n none (.n none (.n (some ⟨Tryz.t315, Tryz.t315.desc, some 4, [1, 1, 1, 1]⟩) .e .e) .e) .e))))) (.n (some ⟨Tryz.t5, Tryz.t5.desc, none, []⟩) (.n (some ⟨Tryz.t9, Tryz.t9.desc, none, []⟩) (.n none (.n none (.n none (.n none (.n (some ⟨Tryz.t257, Tryz.t256.desc, none, []⟩) .e .e) .e) .e) (.n (some ⟨Tryz.t97, Tryz.t97.desc, none, []⟩) .e .e)) (.n (some ⟨Tryz.t49, Tryz.t49.desc, none, []⟩) .e .e)) (.n none (.n none (.n none (.n (some ⟨Tryz.t137, Tryz.t137.desc, none, []⟩) (.n (some ⟨Tryz.t265, Tryz.t264.desc, none, []⟩) .e .e) .e) (.n (some ⟨Tryz.t201, Tryz.t200.desc, some 4, [1, 1, 1, 1]⟩) .e .e)) (.n none (.n (some ⟨Tryz.t169, Tryz.t169.desc, none, []⟩) .e .e) .e)) (.n none .e (.n none (.n none (.n (some ⟨Tryz.t313, Tryz.t53.desc, some 4, [1, 1, 1, 1]⟩) .e .e) .e) .e)))) (.n none (.n none (.n none (.n none (.n none (.n (some ⟨Tryz.t261, Tryz.t261.desc, none, []⟩) .e .e) .e) .e) .e) (.n none (.n none (.n none (.n (some ⟨Tryz.t277, Tryz.t276.desc, none, []⟩) .e .e) .e) .e) (.n none (.n (some ⟨Tryz.t181, Tryz.t180.desc, some 8, [1, 1, 1, 1, 1, 1, 0, 1]⟩) .e .e) .e))) (.n none (.n none (.n none (.n none (.n (some ⟨Tryz.t269, Tryz.t268.desc, none, []⟩) .e .e) .e) .e) .e) .e)))) (.n none (.n (some ⟨Tryz.t4, Tryz.t4.desc, none, []⟩) (.n none (.n none (.n none (.n none .e (.n (some ⟨Tryz.t192, Tryz.t192.desc, none, []⟩) (.n (some ⟨Tryz.t320, Tryz.t320.desc, none, []⟩) .e .e) .e)) (.n none (.n none (.n (some ⟨Tryz.t288, Tryz.t287.desc, none, []⟩) .e .e) .e) .e)) (.n none (.n none (.n none (.n (some ⟨Tryz.t272, Tryz.t272.desc, none, []⟩) .e .e) .e) .e) (.n none (.n (some ⟨Tryz.t176, Tryz.t176.desc, none, []⟩) .e .e) (.n (some ⟨Tryz.t240, Tryz.t239.desc, none, []⟩) .e .e)))) (.n (some ⟨Tryz.t24, Tryz.t24.desc, none, []⟩) (.n none (.n none (.n (some ⟨Tryz.t136, Tryz.t136.desc, none, []⟩) .e .e) .e) (.n none (.n (some ⟨Tryz.t168, Tryz.t168.desc, none, []⟩) .e .e) .e)) (.n (some ⟨Tryz.t56, Tryz.t55.desc, some 2, [1, 1]⟩) (.n none (.n none (.n (some ⟨Tryz.t280, Tryz.t280.desc, none, []⟩) .e .e) .e) .e) (.n none (.n (some ⟨Tryz.t184, Tryz.t183.desc, none, []⟩) .e .e) .e)))) (.n none (.n none (.n none (.n none (.n (some ⟨Tryz.t132, Tryz.t132.desc, none, []⟩) (.n (some ⟨Tryz.t260, Tryz.t259.desc, some 3, [1, 1, 1]⟩) .e .e) .e) .e) (.n none (.n (some ⟨Tryz.t164, Tryz.t163.desc, none, []⟩) (.n (some ⟨Tryz.t292, Tryz.t291.desc, none, []⟩) .e .e) .e) .e)) (.n (some ⟨Tryz.t52, Tryz.t52.desc, none, []⟩) .e .e)) (.n none (.n none (.n none (.n (some ⟨Tryz.t140, Tryz.t140.desc, none, []⟩) .e .e) .e) (.n none (.n (some ⟨Tryz.t172, Tryz.t172.desc, none, []⟩) .e .e) .e)) (.n (some ⟨Tryz.t60, Tryz.t59.desc, some 24, [1, 1, 1, 1, 1, 1, 1, 1, 1, 2, 1, 1, 1, 1, 1, 1, 1, 1, 1, 1, 1, 1, 1, 1]⟩) (.n none (.n none (.n (some ⟨Tryz.t284, Tryz.t284.desc, none, []⟩) .e .e) .e) (.n none (.n (some ⟨Tryz.t348, Tryz.t347.desc, none, []⟩) .e .e) .e)) (.n (some ⟨Tryz.t124, Tryz.t124.desc, none, []⟩) (.n none (.n (some ⟨Tryz.t316, Tryz.t316.desc, none, []⟩) .e .e) .e) .e))))) (.n none (.n none (.n none (.n none (.n none .e (.n (some ⟨Tryz.t194, Tryz.t193.desc, none, []⟩) (.n (some ⟨Tryz.t322, Tryz.t321.desc, none, []⟩) .e .e) .e)) .e) (.n none (.n none (.n none (.n (some ⟨Tryz.t274, Tryz.t273.desc, none, []⟩) .e .e) .e) .e) (.n none (.n (some ⟨Tryz.t178, Tryz.t177.desc, none, []⟩) .e .e) .e))) (.n (some ⟨Tryz.t26, Tryz.t25.desc, none, []⟩) (.n none .e (.n none (.n (some ⟨Tryz.t170, Tryz.t170.desc, none, []⟩) (.n (some ⟨Tryz.t298, Tryz.t297.desc, some 10, [1, 1, 1, 1, 1, 1, 1, 1, 0, 1]⟩) .e .e) .e) .e)) (.n (some ⟨Tryz.t58, Tryz.t57.desc, some 2, [1, 1]⟩) (.n none (.n none (.n (some ⟨Tryz.t282, Tryz.t281.desc, none, []⟩) .e .e) .e) .e) .e))) (.n none (.n none (.n none (.n none (.n (some ⟨Tryz.t134, Tryz.t133.desc, none, []⟩) .e .e) .e) (.n (some ⟨Tryz.t102, Tryz.t101.desc, none, []⟩) .e (.n none (.n (some ⟨Tryz.t358, Tryz.t357.desc, none, []⟩) .e .e) .e))) (.n (some ⟨Tryz.t54, Tryz.t53.desc, some 4, [1, 1, 1, 1]⟩) (.n none (.n none (.n (some ⟨Tryz.t278, Tryz.t278.desc, none, []⟩) .e .e) .e) .e) .e)) (.n none (.n none .e (.n (some ⟨Tryz.t110, Tryz.t110.desc, none, []⟩) (.n (some ⟨Tryz.t174, Tryz.t173.desc, none, []⟩) .e .e) .e)) (.n (some ⟨Tryz.t62, Tryz.t61.desc, none, []⟩) (.n none (.n none (.n (some ⟨Tryz.t286, Tryz.t285.desc, none, []⟩) .e .e) .e) .e) (.n none (.n none (.n (some ⟨Tryz.t318, Tryz.t317.desc, none, []⟩) .e .e) .e) (.n (some ⟨Tryz.t254, Tryz.t254.desc, none, []⟩) .e .e))))))))
noncomputable def fnTree : T Func := (.n none (.n none (.n none (.n none (.n none (.n none (.n none (.n (some Tryz.f127) .e .e) (.n (some Tryz.f191) .e .e)) (.n none (.n (some Tryz.f159) .e .e) (.n (some Tryz.f223) .e .e))) (.n none (.n none (.n (some Tryz.f143) .e .e) (.n (some Tryz.f207) .e .e)) (.n (some Tryz.f111) (.n (some Tryz.f175) .e .e) (.n (some Tryz.f239) .e .e)))) (.n none (.n none (.n (some Tryz.f71) .e (.n (some Tryz.f199) .e .e)) .e) (.n none (.n none (.n (some Tryz.f151) .e .e) (.n (some Tryz.f215) .e .e)) (.n (some Tryz.f119) .e (.n (some Tryz.f247) .e .e))))) (.n none (.n none (.n none (.n none .e (.n (some Tryz.f195) .e .e)) (.n none (.n (some Tryz.f163) .e .e) .e)) (.n none (.n (some Tryz.f83) (.n (some Tryz.f147) .e .e) .e) (.n (some Tryz.f115) (.n none (.n (some Tryz.f307) .e .e) .e) .e))) (.n none (.n none (.n none .e (.n (some Tryz.f203) .e .e)) (.n none (.n (some Tryz.f171) .e .e) (.n (some Tryz.f235) .e .e))) (.n none (.n (some Tryz.f91) (.n (some Tryz.f155) .e .e) (.n (some Tryz.f219) .e .e)) (.n none (.n (some Tryz.f187) .e .e) .e))))) (.n none (.n none (.n none (.n none (.n none .e (.n (some Tryz.f193) .e .e)) (.n none (.n (some Tryz.f161) .e .e) (.n (some Tryz.f225) .e .e))) (.n none (.n none (.n (some Tryz.f145) .e .e) .e) (.n (some Tryz.f113) .e (.n (some Tryz.f241) .e .e)))) (.n none (.n none .e (.n none (.n (some Tryz.f169) .e .e) (.n (some Tryz.f233) .e .e))) (.n none (.n (some Tryz.f89) (.n (some Tryz.f153) .e .e) .e) (.n (some Tryz.f121) .e (.n (some Tryz.f249) .e .e))))) (.n none (.n none (.n none (.n none .e (.n (some Tryz.f197) .e .e)) (.n none (.n (some Tryz.f165) .e .e) (.n (some Tryz.f229) .e .e))) (.n (some Tryz.f53) (.n (some Tryz.f85) (.n (some Tryz.f149) .e .e) .e) (.n (some Tryz.f117) (.n (some Tryz.f181) .e .e) (.n (some Tryz.f245) .e .e)))) (.n none (.n none (.n none (.n (some Tryz.f141) .e .e) .e) (.n none (.n (some Tryz.f173) .e .e) (.n (some Tryz.f237) .e .e))) (.n none (.n none (.n (some Tryz.f157) .e .e) .e) (.n (some Tryz.f125) .e .e)))))) (.n none (.n none (.n none (.n none (.n (some Tryz.f32) (.n none (.n (some Tryz.f128) .e .e) (.n (some Tryz.f192) .e .e)) (.n none (.n (some Tryz.f160) .e .e) (.n (some Tryz.f224) .e .e))) (.n (some Tryz.f48) (.n none (.n (some Tryz.f144) .e .e) .e) (.n (some Tryz.f112) .e (.n (some Tryz.f240) .e .e)))) (.n none (.n none (.n none .e (.n (some Tryz.f200) .e .e)) (.n (some Tryz.f104) .e .e)) (.n none (.n none (.n (some Tryz.f152) .e .e) (.n (some Tryz.f216) .e .e)) (.n (some Tryz.f120) .e (.n (some Tryz.f248) .e .e))))) (.n none (.n none (.n none (.n (some Tryz.f68) .e (.n (some Tryz.f196) .e .e)) (.n none (.n (some Tryz.f164) .e .e) .e)) (.n (some Tryz.f52) (.n (some Tryz.f84) (.n (some Tryz.f148) .e .e) .e) (.n (some Tryz.f116) .e (.n (some Tryz.f244) .e .e)))) (.n (some Tryz.f28) (.n none (.n none (.n (some Tryz.f140) .e .e) (.n (some Tryz.f204) .e .e)) (.n none .e (.n (some Tryz.f236) .e .e))) (.n none (.n (some Tryz.f92) (.n (some Tryz.f156) .e .e) .e) (.n none (.n (some Tryz.f188) .e .e) .e))))) (.n none (.n none (.n none (.n none (.n (some Tryz.f66) .e (.n (some Tryz.f194) .e .e)) .e) (.n none (.n none (.n (some Tryz.f146) .e .e) (.n (some Tryz.f210) .e .e)) (.n (some Tryz.f114) .e (.n (some Tryz.f242) .e .e)))) (.n none (.n (some Tryz.f42) (.n none .e (.n (some Tryz.f202) .e .e)) (.n none (.n (some Tryz.f170) .e .e) .e)) (.n none (.n (some Tryz.f90) (.n (some Tryz.f154) .e .e) (.n (some Tryz.f218) .e .e)) (.n none (.n (some Tryz.f186) .e .e) (.n (some Tryz.f250) .e .e))))) (.n (some Tryz.f14) (.n (some Tryz.f22) (.n none (.n none .e (.n (some Tryz.f198) .e .e)) (.n none (.n (some Tryz.f166) .e .e) (.n (some Tryz.f230) .e .e))) (.n (some Tryz.f54) (.n none (.n (some Tryz.f150) .e .e) .e) (.n (some Tryz.f118) (.n (some Tryz.f182) .e .e) (.n (some Tryz.f246) .e .e)))) (.n none (.n (some Tryz.f46) (.n (some Tryz.f78) (.n (some Tryz.f142) (.n (some Tryz.f270) .e .e) .e) (.n (some Tryz.f206) .e .e)) (.n (some Tryz.f110) (.n (some Tryz.f174) .e .e) (.n (some Tryz.f238) .e .e))) (.n none (.n none (.n (some Tryz.f158) .e .e) .e) (.n (some Tryz.f126) (.n (some Tryz.f190) .e .e) (.n (some Tryz.f254) .e .e))))))))
noncomputable def ev : Env := { ty := tyTree.get, fn := fnTree.get }
theorem fl54 : flatOk ev 54 ⟨Tryz.t54, Tryz.t53.desc, some 4, [1, 1, 1, 1]⟩ = true := by kernel_rfl
theorem fl56 : flatOk ev 56 ⟨Tryz.t56, Tryz.t55.desc, some 2, [1, 1]⟩ = true := by kernel_rfl
theorem fl58 : flatOk ev 58 ⟨Tryz.t58, Tryz.t57.desc, some 2, [1, 1]⟩ = true := by kernel_rfl
theorem fl60 : flatOk ev 60 ⟨Tryz.t60, Tryz.t59.desc, some 24, [1, 1, 1, 1, 1, 1, 1, 1, 1, 2, 1, 1, 1, 1, 1, 1, 1, 1, 1, 1, 1, 1, 1, 1]⟩ = true := by kernel_rfl
theorem fl155 : flatOk ev 155 ⟨Tryz.t155, Tryz.t155.desc, some 20, [1, 1, 1, 1, 1, 1, 1, 1, 1, 1, 1, 1, 1, 1, 1, 1, 1, 1, 1, 1]⟩ = true := by kernel_rfl
theorem fl181 : flatOk ev 181 ⟨Tryz.t181, Tryz.t180.desc, some 8, [1, 1, 1, 1, 1, 1, 0, 1]⟩ = true := by kernel_rfl
theorem fl191 : flatOk ev 191 ⟨Tryz.t191, Tryz.t190.desc, some 4, [1, 1, 1, 1]⟩ = true := by kernel_rfl
theorem fl201 : flatOk ev 201 ⟨Tryz.t201, Tryz.t200.desc, some 4, [1, 1, 1, 1]⟩ = true := by kernel_rfl
theorem fl260 : flatOk ev 260 ⟨Tryz.t260, Tryz.t259.desc, some 3, [1, 1, 1]⟩ = true := by kernel_rfl
theorem fl271 : flatOk ev 271 ⟨Tryz.t271, Tryz.t270.desc, some 6, [1, 1, 1, 1, 1, 1]⟩ = true := by kernel_rfl
theorem fl298 : flatOk ev 298 ⟨Tryz.t298, Tryz.t297.desc, some 10, [1, 1, 1, 1, 1, 1, 1, 1, 0, 1]⟩ = true := by kernel_rfl
theorem fl299 : flatOk ev 299 ⟨Tryz.t299, Tryz.t299.desc, some 8, [1, 1, 1, 1, 1, 1, 1, 1]⟩ = true := by kernel_rfl
theorem fl313 : flatOk ev 313 ⟨Tryz.t313, Tryz.t53.desc, some 4, [1, 1, 1, 1]⟩ = true := by kernel_rfl
theorem fl315 : flatOk ev 315 ⟨Tryz.t315, Tryz.t315.desc, some 4, [1, 1, 1, 1]⟩ = true := by kernel_rfl
theorem tyTree_ok : T.All (TyP Tryz.prog ev) 0 1 tyTree := ⟨trivial, ⟨trivial, ⟨(ty0 Tryz.typeInfo3 Tryz.underlying3), ⟨trivial, ⟨trivial, ⟨trivial, ⟨trivial, ⟨trivial, ⟨(ty0 Tryz.typeInfo255 Tryz.underlying255), trivial, trivial⟩, trivial⟩, ⟨(tyS Tryz.typeInfo191 Tryz.underlying191 Tryz.eqGuardType191 Tryz.stoodInHeld191 fl191), trivial, trivial⟩⟩, trivial⟩, ⟨trivial, ⟨trivial, ⟨trivial, ⟨(tyS Tryz.typeInfo271 Tryz.underlying271 Tryz.eqGuardType271 Tryz.stoodInHeld271 fl271), trivial, trivial⟩, trivial⟩, trivial⟩, ⟨trivial, ⟨(ty0 Tryz.typeInfo175 Tryz.underlying175), trivial, trivial⟩, trivial⟩⟩⟩, ⟨(ty0 Tryz.typeInfo23 Tryz.underlying23), ⟨trivial, ⟨trivial, ⟨(ty0 Tryz.typeInfo135 Tryz.underlying135), trivial, trivial⟩, trivial⟩, ⟨trivial, ⟨(ty0 Tryz.typeInfo167 Tryz.underlying167), trivial, trivial⟩, ⟨(ty0 Tryz.typeInfo231 Tryz.underlying231), trivial, trivial⟩⟩⟩, ⟨trivial, trivial, ⟨(ty0 Tryz.typeInfo119 Tryz.underlying119), trivial, trivial⟩⟩⟩⟩, ⟨trivial, ⟨trivial, ⟨trivial, ⟨(ty0 Tryz.typeInfo67 Tryz.underlying67), trivial, trivial⟩, trivial⟩, ⟨trivial, ⟨trivial, ⟨trivial, ⟨(ty0 Tryz.typeInfo275 Tryz.underlying275), trivial, trivial⟩, trivial⟩, trivial⟩, ⟨trivial, ⟨trivial, ⟨(ty0 Tryz.typeInfo307 Tryz.underlying307), trivial, trivial⟩, trivial⟩, trivial⟩⟩⟩, ⟨trivial, ⟨trivial, ⟨trivial, ⟨(ty0 Tryz.typeInfo139 Tryz.underlying139), ⟨(ty0 Tryz.typeInfo267 Tryz.underlying267), trivial, trivial⟩, trivial⟩, trivial⟩, ⟨trivial, ⟨(ty0 Tryz.typeInfo171 Tryz.underlying171), ⟨(tyA (k := 8) (e := 5) rfl Tryz.typeInfo299 Tryz.underlying299 Tryz.eqGuardType299 fl299), trivial, trivial⟩, trivial⟩, trivial⟩⟩, ⟨trivial, ⟨trivial, ⟨(tyA (k := 20) (e := 5) rfl Tryz.typeInfo155 Tryz.underlying155 Tryz.eqGuardType155 fl155), ⟨(ty0 Tryz.typeInfo283 Tryz.underlying283), trivial, trivial⟩, trivial⟩, trivial⟩, ⟨trivial, ⟨trivial, ⟨(tyA (k := 4) (e := 3) rfl Tryz.typeInfo315 Tryz.underlying315 Tryz.eqGuardType315 fl315), trivial, trivial⟩, trivial⟩, trivial⟩⟩⟩⟩⟩, ⟨(ty0 Tryz.typeInfo5 Tryz.underlying5), ⟨(ty0 Tryz.typeInfo9 Tryz.underlying9), ⟨trivial, ⟨trivial, ⟨trivial, ⟨trivial, ⟨(ty0 Tryz.typeInfo257 Tryz.underlying257), trivial, trivial⟩, trivial⟩, trivial⟩, ⟨(ty0 Tryz.typeInfo97 Tryz.underlying97), trivial, trivial⟩⟩, ⟨(ty0 Tryz.typeInfo49 Tryz.underlying49), trivial, trivial⟩⟩, ⟨trivial, ⟨trivial, ⟨trivial, ⟨(ty0 Tryz.typeInfo137 Tryz.underlying137), ⟨(ty0 Tryz.typeInfo265 Tryz.underlying265), trivial, trivial⟩, trivial⟩, ⟨(tyS Tryz.typeInfo201 Tryz.underlying201 Tryz.eqGuardType201 Tryz.stoodInHeld201 fl201), trivial, trivial⟩⟩, ⟨trivial, ⟨(ty0 Tryz.typeInfo169 Tryz.underlying169), trivial, trivial⟩, trivial⟩⟩, ⟨trivial, trivial, ⟨trivial, ⟨trivial, ⟨(tyS Tryz.typeInfo313 Tryz.underlying313 Tryz.eqGuardType313 Tryz.stoodInHeld313 fl313), trivial, trivial⟩, trivial⟩, trivial⟩⟩⟩⟩, ⟨trivial, ⟨trivial, ⟨trivial, ⟨trivial, ⟨trivial, ⟨(ty0 Tryz.typeInfo261 Tryz.underlying261), trivial, trivial⟩, trivial⟩, trivial⟩, trivial⟩, ⟨trivial, ⟨trivial, ⟨trivial, ⟨(ty0 Tryz.typeInfo277 Tryz.underlying277), trivial, trivial⟩, trivial⟩, trivial⟩, ⟨trivial, ⟨(tyS Tryz.typeInfo181 Tryz.underlying181 Tryz.eqGuardType181 Tryz.stoodInHeld181 fl181), trivial, trivial⟩, trivial⟩⟩⟩, ⟨trivial, ⟨trivial, ⟨trivial, ⟨trivial, ⟨(ty0 Tryz.typeInfo269 Tryz.underlying269), trivial, trivial⟩, trivial⟩, trivial⟩, trivial⟩, trivial⟩⟩⟩⟩, ⟨trivial, ⟨(ty0 Tryz.typeInfo4 Tryz.underlying4), ⟨trivial, ⟨trivial, ⟨trivial, ⟨trivial, trivial, ⟨(ty0 Tryz.typeInfo192 Tryz.underlying192), ⟨(ty0 Tryz.typeInfo320 Tryz.underlying320), trivial, trivial⟩, trivial⟩⟩, ⟨trivial, ⟨trivial, ⟨(ty0 Tryz.typeInfo288 Tryz.underlying288), trivial, trivial⟩, trivial⟩, trivial⟩⟩, ⟨trivial, ⟨trivial, ⟨trivial, ⟨(ty0 Tryz.typeInfo272 Tryz.underlying272), trivial, trivial⟩, trivial⟩, trivial⟩, ⟨trivial, ⟨(ty0 Tryz.typeInfo176 Tryz.underlying176), trivial, trivial⟩, ⟨(ty0 Tryz.typeInfo240 Tryz.underlying240), trivial, trivial⟩⟩⟩⟩, ⟨(ty0 Tryz.typeInfo24 Tryz.underlying24), ⟨trivial, ⟨trivial, ⟨(ty0 Tryz.typeInfo136 Tryz.underlying136), trivial, trivial⟩, trivial⟩, ⟨trivial, ⟨(ty0 Tryz.typeInfo168 Tryz.underlying168), trivial, trivial⟩, trivial⟩⟩, ⟨(tyS Tryz.typeInfo56 Tryz.underlying56 Tryz.eqGuardType56 Tryz.stoodInHeld56 fl56), ⟨trivial, ⟨trivial, ⟨(ty0 Tryz.typeInfo280 Tryz.underlying280), trivial, trivial⟩, trivial⟩, trivial⟩, ⟨trivial, ⟨(ty0 Tryz.typeInfo184 Tryz.underlying184), trivial, trivial⟩, trivial⟩⟩⟩⟩, ⟨trivial, ⟨trivial, ⟨trivial, ⟨trivial, ⟨(ty0 Tryz.typeInfo132 Tryz.underlying132), ⟨(tyS Tryz.typeInfo260 Tryz.underlying260 Tryz.eqGuardType260 Tryz.stoodInHeld260 fl260), trivial, trivial⟩, trivial⟩, trivial⟩, ⟨trivial, ⟨(ty0 Tryz.typeInfo164 Tryz.underlying164), ⟨(ty0 Tryz.typeInfo292 Tryz.underlying292), trivial, trivial⟩, trivial⟩, trivial⟩⟩, ⟨(ty0 Tryz.typeInfo52 Tryz.underlying52), trivial, trivial⟩⟩, ⟨trivial, ⟨trivial, ⟨trivial, ⟨(ty0 Tryz.typeInfo140 Tryz.underlying140), trivial, trivial⟩, trivial⟩, ⟨trivial, ⟨(ty0 Tryz.typeInfo172 Tryz.underlying172), trivial, trivial⟩, trivial⟩⟩, ⟨(tyS Tryz.typeInfo60 Tryz.underlying60 Tryz.eqGuardType60 Tryz.stoodInHeld60 fl60), ⟨trivial, ⟨trivial, ⟨(ty0 Tryz.typeInfo284 Tryz.underlying284), trivial, trivial⟩, trivial⟩, ⟨trivial, ⟨(ty0 Tryz.typeInfo348 Tryz.underlying348), trivial, trivial⟩, trivial⟩⟩, ⟨(ty0 Tryz.typeInfo124 Tryz.underlying124), ⟨trivial, ⟨(ty0 Tryz.typeInfo316 Tryz.underlying316), trivial, trivial⟩, trivial⟩, trivial⟩⟩⟩⟩⟩, ⟨trivial, ⟨trivial, ⟨trivial, ⟨trivial, ⟨trivial, trivial, ⟨(ty0 Tryz.typeInfo194 Tryz.underlying194), ⟨(ty0 Tryz.typeInfo322 Tryz.underlying322), trivial, trivial⟩, trivial⟩⟩, trivial⟩, ⟨trivial, ⟨trivial, ⟨trivial, ⟨(ty0 Tryz.typeInfo274 Tryz.underlying274), trivial, trivial⟩, trivial⟩, trivial⟩, ⟨trivial, ⟨(ty0 Tryz.typeInfo178 Tryz.underlying178), trivial, trivial⟩, trivial⟩⟩⟩, ⟨(ty0 Tryz.typeInfo26 Tryz.underlying26), ⟨trivial, trivial, ⟨trivial, ⟨(ty0 Tryz.typeInfo170 Tryz.underlying170), ⟨(tyS Tryz.typeInfo298 Tryz.underlying298 Tryz.eqGuardType298 Tryz.stoodInHeld298 fl298), trivial, trivial⟩, trivial⟩, trivial⟩⟩, ⟨(tyS Tryz.typeInfo58 Tryz.underlying58 Tryz.eqGuardType58 Tryz.stoodInHeld58 fl58), ⟨trivial, ⟨trivial, ⟨(ty0 Tryz.typeInfo282 Tryz.underlying282), trivial, trivial⟩, trivial⟩, trivial⟩, trivial⟩⟩⟩, ⟨trivial, ⟨trivial, ⟨trivial, ⟨trivial, ⟨(ty0 Tryz.typeInfo134 Tryz.underlying134), trivial, trivial⟩, trivial⟩, ⟨(ty0 Tryz.typeInfo102 Tryz.underlying102), trivial, ⟨trivial, ⟨(ty0 Tryz.typeInfo358 Tryz.underlying358), trivial, trivial⟩, trivial⟩⟩⟩, ⟨(tyS Tryz.typeInfo54 Tryz.underlying54 Tryz.eqGuardType54 Tryz.stoodInHeld54 fl54), ⟨trivial, ⟨trivial, ⟨(ty0 Tryz.typeInfo278 Tryz.underlying278), trivial, trivial⟩, trivial⟩, trivial⟩, trivial⟩⟩, ⟨trivial, ⟨trivial, trivial, ⟨(ty0 Tryz.typeInfo110 Tryz.underlying110), ⟨(ty0 Tryz.typeInfo174 Tryz.underlying174), trivial, trivial⟩, trivial⟩⟩, ⟨(ty0 Tryz.typeInfo62 Tryz.underlying62), ⟨trivial, ⟨trivial, ⟨(ty0 Tryz.typeInfo286 Tryz.underlying286), trivial, trivial⟩, trivial⟩, trivial⟩, ⟨trivial, ⟨trivial, ⟨(ty0 Tryz.typeInfo318 Tryz.underlying318), trivial, trivial⟩, trivial⟩, ⟨(ty0 Tryz.typeInfo254 Tryz.underlying254), trivial, trivial⟩⟩⟩⟩⟩⟩⟩⟩
theorem fnTree_ok : T.All (FnP Tryz.prog) 0 1 fnTree := ⟨trivial, ⟨trivial, ⟨trivial, ⟨trivial, ⟨trivial, ⟨trivial, ⟨trivial, ⟨⟨Tryz.func127, Tryz.call127⟩, trivial, trivial⟩, ⟨⟨Tryz.func191, Tryz.call191⟩, trivial, trivial⟩⟩, ⟨trivial, ⟨⟨Tryz.func159, Tryz.call159⟩, trivial, trivial⟩, ⟨⟨Tryz.func223, Tryz.call223⟩, trivial, trivial⟩⟩⟩, ⟨trivial, ⟨trivial, ⟨⟨Tryz.func143, Tryz.call143⟩, trivial, trivial⟩, ⟨⟨Tryz.func207, Tryz.call207⟩, trivial, trivial⟩⟩, ⟨⟨Tryz.func111, Tryz.call111⟩, ⟨⟨Tryz.func175, Tryz.call175⟩, trivial, trivial⟩, ⟨⟨Tryz.func239, Tryz.call239⟩, trivial, trivial⟩⟩⟩⟩, ⟨trivial, ⟨trivial, ⟨⟨Tryz.func71, Tryz.call71⟩, trivial, ⟨⟨Tryz.func199, Tryz.call199⟩, trivial, trivial⟩⟩, trivial⟩, ⟨trivial, ⟨trivial, ⟨⟨Tryz.func151, Tryz.call151⟩, trivial, trivial⟩, ⟨⟨Tryz.func215, Tryz.call215⟩, trivial, trivial⟩⟩, ⟨⟨Tryz.func119, Tryz.call119⟩, trivial, ⟨⟨Tryz.func247, Tryz.call247⟩, trivial, trivial⟩⟩⟩⟩⟩, ⟨trivial, ⟨trivial, ⟨trivial, ⟨trivial, trivial, ⟨⟨Tryz.func195, Tryz.call195⟩, trivial, trivial⟩⟩, ⟨trivial, ⟨⟨Tryz.func163, Tryz.call163⟩, trivial, trivial⟩, trivial⟩⟩, ⟨trivial, ⟨⟨Tryz.func83, Tryz.call83⟩, ⟨⟨Tryz.func147, Tryz.call147⟩, trivial, trivial⟩, trivial⟩, ⟨⟨Tryz.func115, Tryz.call115⟩, ⟨trivial, ⟨⟨Tryz.func307, Tryz.call307⟩, trivial, trivial⟩, trivial⟩, trivial⟩⟩⟩, ⟨trivial, ⟨trivial, ⟨trivial, trivial, ⟨⟨Tryz.func203, Tryz.call203⟩, trivial, trivial⟩⟩, ⟨trivial, ⟨⟨Tryz.func171, Tryz.call171⟩, trivial, trivial⟩, ⟨⟨Tryz.func235, Tryz.call235⟩, trivial, trivial⟩⟩⟩, ⟨trivial, ⟨⟨Tryz.func91, Tryz.call91⟩, ⟨⟨Tryz.func155, Tryz.call155⟩, trivial, trivial⟩, ⟨⟨Tryz.func219, Tryz.call219⟩, trivial, trivial⟩⟩, ⟨trivial, ⟨⟨Tryz.func187, Tryz.call187⟩, trivial, trivial⟩, trivial⟩⟩⟩⟩⟩, ⟨trivial, ⟨trivial, ⟨trivial, ⟨trivial, ⟨trivial, trivial, ⟨⟨Tryz.func193, Tryz.call193⟩, trivial, trivial⟩⟩, ⟨trivial, ⟨⟨Tryz.func161, Tryz.call161⟩, trivial, trivial⟩, ⟨⟨Tryz.func225, Tryz.call225⟩, trivial, trivial⟩⟩⟩, ⟨trivial, ⟨trivial, ⟨⟨Tryz.func145, Tryz.call145⟩, trivial, trivial⟩, trivial⟩, ⟨⟨Tryz.func113, Tryz.call113⟩, trivial, ⟨⟨Tryz.func241, Tryz.call241⟩, trivial, trivial⟩⟩⟩⟩, ⟨trivial, ⟨trivial, trivial, ⟨trivial, ⟨⟨Tryz.func169, Tryz.call169⟩, trivial, trivial⟩, ⟨⟨Tryz.func233, Tryz.call233⟩, trivial, trivial⟩⟩⟩, ⟨trivial, ⟨⟨Tryz.func89, Tryz.call89⟩, ⟨⟨Tryz.func153, Tryz.call153⟩, trivial, trivial⟩, trivial⟩, ⟨⟨Tryz.func121, Tryz.call121⟩, trivial, ⟨⟨Tryz.func249, Tryz.call249⟩, trivial, trivial⟩⟩⟩⟩⟩, ⟨trivial, ⟨trivial, ⟨trivial, ⟨trivial, trivial, ⟨⟨Tryz.func197, Tryz.call197⟩, trivial, trivial⟩⟩, ⟨trivial, ⟨⟨Tryz.func165, Tryz.call165⟩, trivial, trivial⟩, ⟨⟨Tryz.func229, Tryz.call229⟩, trivial, trivial⟩⟩⟩, ⟨⟨Tryz.func53, Tryz.call53⟩, ⟨⟨Tryz.func85, Tryz.call85⟩, ⟨⟨Tryz.func149, Tryz.call149⟩, trivial, trivial⟩, trivial⟩, ⟨⟨Tryz.func117, Tryz.call117⟩, ⟨⟨Tryz.func181, Tryz.call181⟩, trivial, trivial⟩, ⟨⟨Tryz.func245, Tryz.call245⟩, trivial, trivial⟩⟩⟩⟩, ⟨trivial, ⟨trivial, ⟨trivial, ⟨⟨Tryz.func141, Tryz.call141⟩, trivial, trivial⟩, trivial⟩, ⟨trivial, ⟨⟨Tryz.func173, Tryz.call173⟩, trivial, trivial⟩, ⟨⟨Tryz.func237, Tryz.call237⟩, trivial, trivial⟩⟩⟩, ⟨trivial, ⟨trivial, ⟨⟨Tryz.func157, Tryz.call157⟩, trivial, trivial⟩, trivial⟩, ⟨⟨Tryz.func125, Tryz.call125⟩, trivial, trivial⟩⟩⟩⟩⟩⟩, ⟨trivial, ⟨trivial, ⟨trivial, ⟨trivial, ⟨⟨Tryz.func32, Tryz.call32⟩, ⟨trivial, ⟨⟨Tryz.func128, Tryz.call128⟩, trivial, trivial⟩, ⟨⟨Tryz.func192, Tryz.call192⟩, trivial, trivial⟩⟩, ⟨trivial, ⟨⟨Tryz.func160, Tryz.call160⟩, trivial, trivial⟩, ⟨⟨Tryz.func224, Tryz.call224⟩, trivial, trivial⟩⟩⟩, ⟨⟨Tryz.func48, Tryz.call48⟩, ⟨trivial, ⟨⟨Tryz.func144, Tryz.call144⟩, trivial, trivial⟩, trivial⟩, ⟨⟨Tryz.func112, Tryz.call112⟩, trivial, ⟨⟨Tryz.func240, Tryz.call240⟩, trivial, trivial⟩⟩⟩⟩, ⟨trivial, ⟨trivial, ⟨trivial, trivial, ⟨⟨Tryz.func200, Tryz.call200⟩, trivial, trivial⟩⟩, ⟨⟨Tryz.func104, Tryz.call104⟩, trivial, trivial⟩⟩, ⟨trivial, ⟨trivial, ⟨⟨Tryz.func152, Tryz.call152⟩, trivial, trivial⟩, ⟨⟨Tryz.func216, Tryz.call216⟩, trivial, trivial⟩⟩, ⟨⟨Tryz.func120, Tryz.call120⟩, trivial, ⟨⟨Tryz.func248, Tryz.call248⟩, trivial, trivial⟩⟩⟩⟩⟩, ⟨trivial, ⟨trivial, ⟨trivial, ⟨⟨Tryz.func68, Tryz.call68⟩, trivial, ⟨⟨Tryz.func196, Tryz.call196⟩, trivial, trivial⟩⟩, ⟨trivial, ⟨⟨Tryz.func164, Tryz.call164⟩, trivial, trivial⟩, trivial⟩⟩, ⟨⟨Tryz.func52, Tryz.call52⟩, ⟨⟨Tryz.func84, Tryz.call84⟩, ⟨⟨Tryz.func148, Tryz.call148⟩, trivial, trivial⟩, trivial⟩, ⟨⟨Tryz.func116, Tryz.call116⟩, trivial, ⟨⟨Tryz.func244, Tryz.call244⟩, trivial, trivial⟩⟩⟩⟩, ⟨⟨Tryz.func28, Tryz.call28⟩, ⟨trivial, ⟨trivial, ⟨⟨Tryz.func140, Tryz.call140⟩, trivial, trivial⟩, ⟨⟨Tryz.func204, Tryz.call204⟩, trivial, trivial⟩⟩, ⟨trivial, trivial, ⟨⟨Tryz.func236, Tryz.call236⟩, trivial, trivial⟩⟩⟩, ⟨trivial, ⟨⟨Tryz.func92, Tryz.call92⟩, ⟨⟨Tryz.func156, Tryz.call156⟩, trivial, trivial⟩, trivial⟩, ⟨trivial, ⟨⟨Tryz.func188, Tryz.call188⟩, trivial, trivial⟩, trivial⟩⟩⟩⟩⟩, ⟨trivial, ⟨trivial, ⟨trivial, ⟨trivial, ⟨⟨Tryz.func66, Tryz.call66⟩, trivial, ⟨⟨Tryz.func194, Tryz.call194⟩, trivial, trivial⟩⟩, trivial⟩, ⟨trivial, ⟨trivial, ⟨⟨Tryz.func146, Tryz.call146⟩, trivial, trivial⟩, ⟨⟨Tryz.func210, Tryz.call210⟩, trivial, trivial⟩⟩, ⟨⟨Tryz.func114, Tryz.call114⟩, trivial, ⟨⟨Tryz.func242, Tryz.call242⟩, trivial, trivial⟩⟩⟩⟩, ⟨trivial, ⟨⟨Tryz.func42, Tryz.call42⟩, ⟨trivial, trivial, ⟨⟨Tryz.func202, Tryz.call202⟩, trivial, trivial⟩⟩, ⟨trivial, ⟨⟨Tryz.func170, Tryz.call170⟩, trivial, trivial⟩, trivial⟩⟩, ⟨trivial, ⟨⟨Tryz.func90, Tryz.call90⟩, ⟨⟨Tryz.func154, Tryz.call154⟩, trivial, trivial⟩, ⟨⟨Tryz.func218, Tryz.call218⟩, trivial, trivial⟩⟩, ⟨trivial, ⟨⟨Tryz.func186, Tryz.call186⟩, trivial, trivial⟩, ⟨⟨Tryz.func250, Tryz.call250⟩, trivial, trivial⟩⟩⟩⟩⟩, ⟨⟨Tryz.func14, Tryz.call14⟩, ⟨⟨Tryz.func22, Tryz.call22⟩, ⟨trivial, ⟨trivial, trivial, ⟨⟨Tryz.func198, Tryz.call198⟩, trivial, trivial⟩⟩, ⟨trivial, ⟨⟨Tryz.func166, Tryz.call166⟩, trivial, trivial⟩, ⟨⟨Tryz.func230, Tryz.call230⟩, trivial, trivial⟩⟩⟩, ⟨⟨Tryz.func54, Tryz.call54⟩, ⟨trivial, ⟨⟨Tryz.func150, Tryz.call150⟩, trivial, trivial⟩, trivial⟩, ⟨⟨Tryz.func118, Tryz.call118⟩, ⟨⟨Tryz.func182, Tryz.call182⟩, trivial, trivial⟩, ⟨⟨Tryz.func246, Tryz.call246⟩, trivial, trivial⟩⟩⟩⟩, ⟨trivial, ⟨⟨Tryz.func46, Tryz.call46⟩, ⟨⟨Tryz.func78, Tryz.call78⟩, ⟨⟨Tryz.func142, Tryz.call142⟩, ⟨⟨Tryz.func270, Tryz.call270⟩, trivial, trivial⟩, trivial⟩, ⟨⟨Tryz.func206, Tryz.call206⟩, trivial, trivial⟩⟩, ⟨⟨Tryz.func110, Tryz.call110⟩, ⟨⟨Tryz.func174, Tryz.call174⟩, trivial, trivial⟩, ⟨⟨Tryz.func238, Tryz.call238⟩, trivial, trivial⟩⟩⟩, ⟨trivial, ⟨trivial, ⟨⟨Tryz.func158, Tryz.call158⟩, trivial, trivial⟩, trivial⟩, ⟨⟨Tryz.func126, Tryz.call126⟩, ⟨⟨Tryz.func190, Tryz.call190⟩, trivial, trivial⟩, ⟨⟨Tryz.func254, Tryz.call254⟩, trivial, trivial⟩⟩⟩⟩⟩⟩⟩⟩
theorem ev_ok : EnvOk Tryz.prog ev := (facts_of rfl rfl (by kernel_rfl) tyTree_ok fnTree_ok).ok
end Go.Proofs.YtldjgpnbkbmgoaaGreatDoor

