/-
  Regions whose order is drawn: each step of the model's, and the whole region.
-/
import Derived.Test.YtmgpfkoomlgcoaaGreatEvS
namespace Go.Proofs.YtmgpfkoomlgcoaaGreat.Ev

theorem Step.place' {γ0 γ : Gam} {σ0 σ : AS} {id : Nat} (q : Option Place) (hg : γ id = none) (hid : σ0.next ≤ id) (h : Step γ0 σ0 γ σ) : Step γ0 σ0 (upd γ id q) σ :=
  ⟨h.ext.trans (ext_upd q hg), fun o ho hgo => by rw [upd_ne _ _ (by omega)]; exact h.new o ho hgo, h.le, h.same⟩

theorem stepV_lone {E : Env} {cb : Cb} {ops : List Oper} {o : Oper} {t : Tmps} {σ σ' : AS} {v : AV} (h : stepV E cb ops o t σ = some (v, σ', 3)) : σ' = σ := by
  unfold stepV at h
  (repeat' split at h) <;> simp only [Option.some.injEq, Prod.mk.injEq, reduceCtorEq] at h
  all_goals first
    | exact h.2.1.symm
    | (exfalso; have := h.2.2; omega)

section
variable {F : Frz} {P : Program} {E : Env} (hE : EnvOk P E) {ops : Array Oper} {rows : List Row} (hrows : RowsOk ops rows) {n : Nat} {γ0 : Gam} {σ0 : AS} {done : Nat} {rem rd : List Row} {t : Tmps} {σ : AS} {kd : Nat → PK} {γ : Gam} {listed : Array Bool} {a : Act} {w : World}
include hrows

/-- where a row that may go next looks, nothing is pending -/
theorem mask_same (hI : Inv F E ops rows n γ0 σ0 done rem rd t σ kd γ listed a w) {r : Row} (hr : r ∈ rows) (hs : Pending done listed r → r.early = true) (hc : ∀ j, has r.pm j = true → listed.getD j false = true) : SameAt r.looks t (T.mask (pmask rows done listed) t) := fun d hd => by
  rw [T.get_mask, if_neg]
  rw [Bool.not_eq_true, pmask_f]
  intro q hq hp e
  by_cases hqr : q.i = r.i
  · have := hrows.eq hq hr hqr
    subst this
    exact hrows.self q hq (hs hp) d e hd
  · rcases (hrows.pair q hq r hr hqr).looks d e hd with h | ⟨_, h⟩
    · have := hc _ h
      rw [hp.2] at this; cases this
    · rw [(hI.pend q hq hp).1] at h; cases h

theorem Inv.laid (hI : Inv F E ops rows n γ0 σ0 done rem rd t σ kd γ listed a w) {r : Row} (hr : r ∈ rows) (hp : Pending done listed r) {γ' : Gam} {x : Value} {w' : World} (hx : Conc γ' (kd r.i).val x) (hR : RelL F γ' σ w') (hS : Step γ0 σ0 γ' σ) (hext : Ext γ γ')
    (hkeep : ∀ q ∈ rows, Pending done listed q → q.i ≠ r.i → Pend E ops.toList rd t σ γ q (kd q.i) → Pend E ops.toList rd t σ γ' q (kd q.i)) :
    Inv F E ops rows n γ0 σ0 done rem rd t σ kd γ' (listed.setIfInBounds r.i true) (a.put r.o.dst x) w' := by
  have hi : r.i < listed.size := by rw [hI.size]; exact hrows.idx hr
  have hset : ∀ j, (listed.setIfInBounds r.i true).getD j false = if j = r.i then true else listed.getD j false := fun j => by
    by_cases e : j = r.i
    · subst e; rw [if_pos rfl, getD_set_self hi]
    · rw [if_neg e, getD_set_ne _ (Ne.symm e)]
  have hpend : ∀ q, Pending done (listed.setIfInBounds r.i true) q ↔ Pending done listed q ∧ q.i ≠ r.i := fun q => by
    unfold Pending
    rw [hset]
    by_cases e : q.i = r.i
    · simp [e]
    · simp [e]
  refine ⟨hI.remIn, hI.cover, hI.remD, hI.down, fun q hq h => ?_, by simp [hI.size], fun q hq h => ?_, fun q hq q' hq' h h' => hI.ids q hq q' hq' ((hpend q).1 h).1 ((hpend q').1 h').1, fun q hq h => hI.fresh q hq ((hpend q).1 h).1, hR, hS, ?_⟩
  · rw [hset] at h
    by_cases e : q.i = r.i
    · rw [e]; exact hp.1
    · rw [if_neg e] at h; exact hI.sub q hq h
  · obtain ⟨h1, hne⟩ := (hpend q).1 h
    obtain ⟨p1, p2, p3⟩ := hI.pend q hq h1
    exact ⟨p1, hkeep q hq h1 hne p2, p3⟩
  · refine ⟨by cases r.o.dst <;> simpa [Act.put] using hI.tmps.size, by cases r.o.dst <;> exact hI.tmps.defers, fun i v hv => ?_⟩
    rw [T.get_mask] at hv
    split at hv
    · cases hv
    · rename_i hm
      have hm := pmask_f.1 (Bool.not_eq_true _ ▸ hm : _ = false)
      by_cases e : r.o.dst = some i
      · obtain ⟨h1, h2⟩ := (hI.pend r hr hp).2.2 i e
        rw [h1] at hv
        cases hv
        refine ⟨x, ?_, hx⟩
        rw [e]
        simp only [Act.put]
        rw [Array.getElem?_setIfInBounds_self_of_lt (Nat.lt_of_lt_of_le h2 hI.tmps.size)]
      · obtain ⟨y, h1, h2⟩ := hI.tmps.get i v (by
          rw [T.get_mask, if_neg, hv]
          rw [Bool.not_eq_true, pmask_f]
          intro q hq h e'
          by_cases hqr : q.i = r.i
          · have := hrows.eq hq hr hqr
            subst this
            exact e e'
          · exact hm q hq ((hpend q).2 ⟨h, hqr⟩) e')
        refine ⟨y, ?_, h2.mono hext _ _⟩
        cases hd : r.o.dst with
        | none => exact h1
        | some d =>
          simp only [Act.put]
          rw [Array.getElem?_setIfInBounds_ne (fun h => e (by rw [hd, h]))]
          exact h1

include hE in
theorem Inv.pendStep (hI : Inv F E ops rows n γ0 σ0 done rem rd t σ kd γ listed a w) {r : Row} (hr : r ∈ rows) (hp : Pending done listed r) (hc : ∀ j, has r.pm j = true → listed.getD j false = true) {Q : Exit → Act → World → Prop} {K : Act → World → Prop}
    (hK : ∀ γ' a' w', Inv F E ops rows n γ0 σ0 done rem rd t σ kd γ' (listed.setIfInBounds r.i true) a' w' → K a' w') : wpOp P ops Q r.i K a w := by
  obtain ⟨he, hP, _⟩ := hI.pend r hr hp
  have hsame := mask_same hrows hI hr (fun _ => he) hc
  rw [hrows.looksEq hr] at hsame
  have hwant : ∀ b, wantedA ops.toList t r.o = some b → Region.wanted r.o (yielded ops a.tmps) = b := fun b hb => by
    rw [sameAt_wanted hsame] at hb
    exact wanted_ok (γ := γ) (n := n) hb fun d u _ hu => hI.tmps.get d u hu
  have hev := fun out (h : evOp E t σ r.o.op = some out) => (sameAt_evOp (E := E) (σ := σ) hsame).symm.trans h
  have hρ := hI.tmps.opnd
  have hstay : ∀ x, Conc γ (kd r.i).val x → K (a.put r.o.dst x) w := fun x hx => hK γ _ _ (hI.laid hrows hr hp hx hI.rel hI.step (.refl γ) fun q hq h hne hP => hP)
  unfold wpOp
  simp only [(hrows.row r hr).1]
  cases hk : kd r.i with
  | no =>
    rw [hk] at hP
    rw [hwant _ hP]
    simp only [Bool.false_eq_true, if_false]
    exact hstay undef (by rw [hk]; exact conc_lit γ _)
  | now v =>
    rw [hk] at hP
    rw [hwant _ hP.1]
    simp only [if_true]
    refine .inl ?_
    unfold Oper.wp
    obtain ⟨x, h1, h2⟩ := val_ok hE hI.rel.toRel hρ r.o (hev _ hP.2) (.inl rfl)
    rw [h1, Oper.upon_value]
    exact hstay x (by rw [hk]; exact h2)
  | read v =>
    rw [hk] at hP
    obtain ⟨hP1, _, u, hP3, hP4⟩ := hP
    rw [hwant _ hP1]
    simp only [if_true]
    refine .inl ?_
    unfold Oper.wp
    obtain ⟨x, h1, h2⟩ := val_ok hE hI.rel.toRel hρ r.o (hev _ hP3) (.inr rfl)
    rw [h1, Oper.upon_value]
    cases hd : r.o.dst with
    | none =>
      obtain ⟨z, hz⟩ : ∃ z, Conc γ v z ∨ True := ⟨undef, .inr trivial⟩
      have hI' := hI
      refine hK γ _ _ ?_
      have hi : r.i < listed.size := by rw [hI.size]; exact hrows.idx hr
      have hset : ∀ j, (listed.setIfInBounds r.i true).getD j false = if j = r.i then true else listed.getD j false := fun j => by
        by_cases e : j = r.i
        · subst e; rw [if_pos rfl, getD_set_self hi]
        · rw [if_neg e, getD_set_ne _ (Ne.symm e)]
      have hpend : ∀ q, Pending done (listed.setIfInBounds r.i true) q ↔ Pending done listed q ∧ q.i ≠ r.i := fun q => by
        unfold Pending
        rw [hset]
        by_cases e : q.i = r.i <;> simp [e]
      refine ⟨hI.remIn, hI.cover, hI.remD, hI.down, fun q hq h => ?_, by simp [hI.size], fun q hq h => hI.pend q hq ((hpend q).1 h).1, fun q hq q' hq' h h' => hI.ids q hq q' hq' ((hpend q).1 h).1 ((hpend q').1 h').1, fun q hq h => hI.fresh q hq ((hpend q).1 h).1, hI.rel, hI.step, ⟨hI.tmps.size, hI.tmps.defers, fun i v hv => hI.tmps.get i v ?_⟩⟩
      · rw [hset] at h
        by_cases e : q.i = r.i
        · rw [e]; exact hp.1
        · rw [if_neg e] at h; exact hI.sub q hq h
      · rw [T.get_mask] at hv ⊢
        split at hv
        · cases hv
        · rename_i hm
          have hm := pmask_f.1 (Bool.not_eq_true _ ▸ hm : _ = false)
          rw [if_neg, hv]
          rw [Bool.not_eq_true, pmask_f]
          intro q hq h e'
          by_cases hqr : q.i = r.i
          · have := hrows.eq hq hr hqr
            subst this
            rw [hd] at e'; cases e'
          · exact hm q hq ((hpend q).2 ⟨h, hqr⟩) e'
    | some d =>
      rw [← hd]
      exact hstay x (by rw [hk]; rw [← hP4 (by rw [hd]; simp)]; exact h2)
  | new ob k id =>
    rw [hk] at hP
    obtain ⟨hP1, hP2, hP3, hP4, hP5⟩ := hP
    rw [hwant _ hP1]
    simp only [if_true]
    refine .inl ?_
    unfold Oper.wp
    obtain ⟨hd, cob, x, top, h1, h2⟩ := new_ok hE (σ := σ) (w := w) hρ r.o (hev _ hP2)
    have hrel := h2 (upd γ id (some ⟨w.heap.size, 0, top⟩)) id { w with heap := w.heap.push cob } (ext_upd _ hP4) (upd_self _ _ _) (by simp)
    rw [h1, Oper.upon_value]
    refine hK _ _ _ (hI.laid hrows hr hp (by rw [hk]; exact hrel.2) (hI.rel.place hP3 hP4 hP5 hd cob 0 top hrel.1) (Step.place' _ hP4 (hI.fresh r hr hp ob k id hk) hI.step) (ext_upd _ hP4) fun q hq h hne hPq => ?_)
    cases hkq : kd q.i with
    | no => rw [hkq] at hPq; exact hPq
    | now v => rw [hkq] at hPq; exact hPq
    | read v => rw [hkq] at hPq; exact hPq
    | new ob' k' id' =>
      rw [hkq] at hPq
      obtain ⟨q1, q2, q3, q4, q5⟩ := hPq
      refine ⟨q1, q2, q3, ?_, q5⟩
      rw [upd_ne _ _ fun e => ?_]
      · exact q4
      · subst e
        exact hne (hI.ids q hq r hr h hp _ _ _ _ _ hkq hk)

include hE in
/-- the one row that may go and is not taken ahead -/
theorem Inv.lockStep (hI : Inv F E ops rows n γ0 σ0 done rem rd t σ kd γ listed a w) (hn : n ≤ lim) {cb : Cb} (hcb : CbOk P cb) {r : Row} {rem1 : List Row} (hp : rem.Perm (r :: rem1)) (hc : ∀ j, has r.pm j = true → listed.getD j false = true)
    {v : AV} {σ1 : AS} {tag : Nat} (hs : stepV E cb ops.toList r.o t σ = some (v, σ1, tag)) {t1 : Tmps} (ht : putA n t r.o.dst v = some t1) (ha : tag = 3 ∨ again E r.pm t1 σ1 rd = true) {Q : Exit → Act → World → Prop} {K : Act → World → Prop}
    (hK : ∀ γ' a' w', Inv F E ops rows n γ0 σ0 (Nat.lor done (Nat.shiftLeft 1 r.i)) rem1 rd t1 σ1 kd γ' (listed.setIfInBounds r.i true) a' w' → K a' w') : wpOp P ops Q r.i K a w := by
  have hrm : r ∈ rem := hp.mem_iff.2 (by simp)
  obtain ⟨hr, hnr⟩ := hI.remIn r hrm
  have hD : (r :: rem1).Pairwise (fun r q => r.i ≠ q.i) := (hp.pairwise_iff (fun h => Ne.symm h)).1 hI.remD
  rw [List.pairwise_cons] at hD
  have hsame := mask_same hrows hI hr (fun h => absurd h.1 (by rw [hnr]; simp)) hc
  rw [hrows.looksEq hr] at hsame
  have hs' := hs
  rw [sameAt_step hsame] at hs'
  refine stepV_ok hE hcb hs' (hrows.row r hr).1 hI.rel hI.tmps fun γ' x w' hx hR hS => hK γ' _ _ ?_
  have hi : r.i < listed.size := by rw [hI.size]; exact hrows.idx hr
  have hset : ∀ j, (listed.setIfInBounds r.i true).getD j false = if j = r.i then true else listed.getD j false := fun j => by
    by_cases e : j = r.i
    · subst e; rw [if_pos rfl, getD_set_self hi]
    · rw [if_neg e, getD_set_ne _ (Ne.symm e)]
  have hdone : ∀ j, has (Nat.lor done (Nat.shiftLeft 1 r.i)) j = true ↔ has done j = true ∨ j = r.i := fun j => by rw [has_lor]; simp
  have hpend : ∀ q, Pending (Nat.lor done (Nat.shiftLeft 1 r.i)) (listed.setIfInBounds r.i true) q ↔ Pending done listed q := fun q => by
    unfold Pending
    rw [hset, hdone]
    by_cases e : q.i = r.i
    · simp [e, hnr]
    · simp [e]
  have hkeep := fun (q : Row) (hq : q ∈ rows) (hq' : Pending done listed q) => keep_looks hrows hI hr hnr hq hq' (.inr hc)
  have hget := putA_get ht hn
  refine ⟨fun q hq => ?_, fun q hq => ?_, hD.2, fun q hq h j hj => ?_, fun q hq h => ?_, by simp [hI.size], fun q hq h => ?_, fun q hq q' hq' h h' => hI.ids q hq q' hq' ((hpend q).1 h) ((hpend q').1 h'), fun q hq h => hI.fresh q hq ((hpend q).1 h), hR, hI.step.trans hS, ?_⟩
  · have hq' : q ∈ rem := hp.mem_iff.2 (by simp [hq])
    obtain ⟨h1, h2⟩ := hI.remIn q hq'
    refine ⟨h1, ?_⟩
    rw [has_lor, h2]
    simp [Ne.symm (hD.1 q hq)]
  · rcases hI.cover q hq with h | h
    · exact .inl ((hdone _).2 (.inl h))
    · rcases List.mem_cons.1 (hp.mem_iff.1 h) with rfl | h
      · exact .inl ((hdone _).2 (.inr rfl))
      · exact .inr h
  · rcases (hdone _).1 h with h | h
    · exact (hdone _).2 (.inl (hI.down q hq h j hj))
    · have e := hrows.eq hq hr h
      subst e
      have h1 := hc j hj
      have hlt : j < ops.size := Nat.lt_trans (hrows.lt q hq j hj) (hrows.idx hq)
      have h2 := hrows.all j _ (Array.getElem?_eq_getElem hlt)
      exact (hdone _).2 (.inl (hI.sub _ h2 h1))
  · rw [hset] at h
    by_cases e : q.i = r.i
    · exact (hdone _).2 (.inr e)
    · rw [if_neg e] at h; exact (hdone _).2 (.inl (hI.sub q hq h))
  · have h' := (hpend q).1 h
    obtain ⟨h1, h2, h3⟩ := hI.pend q hq h'
    have hsameq : SameAt q.looks t t1 := fun d hd => by
      rw [hget, if_neg]
      intro e
      exact (hkeep q hq h' d e).1 hd
    have hslot : ∀ d, q.o.dst = some d → t1.get d = t.get d := fun d hd => by
      rw [hget, if_neg]
      intro e
      exact (hkeep q hq h' d e).2 hd
    refine ⟨h1, Pend.keep hrows hq hsameq (fun v ev hm => ?_) hS h2, fun d hd => ?_⟩
    · have hnp : has r.pm q.i = false := by
        cases hh : has r.pm q.i with
        | false => rfl
        | true => have := hc _ hh; rw [h'.2] at this; cases this
      rcases ha with rfl | ha
      · have hσ := stepV_lone hs
        subst hσ
        have h2' := h2
        rw [ev] at h2'
        obtain ⟨_, _, u, h4, h5⟩ := h2'
        rw [hrows.looksEq hq] at hsameq
        rw [sameAt_evOp hsameq] at h4
        exact ⟨hm, u, h4, h5⟩
      obtain ⟨u, hu, hu'⟩ := again_ok ha q hm hnp
      refine ⟨hm, u, hu, fun hne => ?_⟩
      cases hd : q.o.dst with
      | none => exact absurd hd hne
      | some d =>
        have h4 := (h3 d hd).1
        rw [ev] at h4
        exact (hu' d v hd (by rw [hslot d hd]; exact h4)).symm
    · rw [hslot d hd]; exact h3 d hd
  · refine ⟨by cases r.o.dst <;> simpa [Act.put] using hI.tmps.size, by cases r.o.dst <;> exact hI.tmps.defers, fun i u hu => ?_⟩
    rw [T.get_mask] at hu
    split at hu
    · cases hu
    · rename_i hm
      have hm := pmask_f.1 (Bool.not_eq_true _ ▸ hm : _ = false)
      rw [hget] at hu
      by_cases e : r.o.dst = some i
      · rw [if_pos e] at hu
        cases hu
        refine ⟨x, ?_, hx⟩
        rw [e] at ht ⊢
        simp only [Act.put]
        rw [Array.getElem?_setIfInBounds_self_of_lt (Nat.lt_of_lt_of_le (putA_lt ht) hI.tmps.size)]
      · rw [if_neg e] at hu
        obtain ⟨y, h1, h2⟩ := hI.tmps.get i u (by
          rw [T.get_mask, if_neg, hu]
          rw [Bool.not_eq_true, pmask_f]
          exact fun q hq h => hm q hq ((hpend q).2 h))
        refine ⟨y, ?_, h2.mono hS.ext _ _⟩
        cases hd : r.o.dst with
        | none => exact h1
        | some d =>
          simp only [Act.put]
          rw [Array.getElem?_setIfInBounds_ne (fun h => e (by rw [hd, h]))]
          exact h1

/-- The four things that a row taken ahead can be. -/
theorem stepV_early {cb : Cb} {r : Row} (hr : r ∈ rows) (he : r.early = true) {v : AV} {σ1 : AS} {tag : Nat} (h : stepV E cb ops.toList r.o t σ = some (v, σ1, tag)) :
    (wantedA ops.toList t r.o = some false ∧ v = undefV ∧ σ1 = σ ∧ tag = 0) ∨
    (wantedA ops.toList t r.o = some true ∧ ((evOp E t σ r.o.op = some (.pure v) ∧ σ1 = σ ∧ tag = 0) ∨ (evOp E t σ r.o.op = some (.read v) ∧ σ1 = σ ∧ tag = 1) ∨
      ∃ ob k, evOp E t σ r.o.op = some (.new ob k) ∧ σ.next < lim ∧ v = k.val σ.next ∧ σ1 = { heap := σ.heap.put σ.next ob, next := σ.next + 1 } ∧ tag = 2)) := by
  rw [hrows.earlyEq hr] at he
  unfold stepV at h
  split at h
  · cases h
  · rename_i hw
    simp only [Option.some.injEq, Prod.mk.injEq] at h
    exact .inl ⟨hw, h.1.symm, h.2.1.symm, h.2.2.symm⟩
  · rename_i hw
    refine .inr ⟨hw, ?_⟩
    split at h
    · cases h
    · rename_i u hev
      simp only [Option.some.injEq, Prod.mk.injEq] at h
      obtain ⟨rfl, rfl, rfl⟩ := h
      exact .inl ⟨hev, rfl, rfl⟩
    · rename_i u hev
      simp only [Option.some.injEq, Prod.mk.injEq] at h
      obtain ⟨rfl, rfl, rfl⟩ := h
      exact .inr (.inl ⟨hev, rfl, rfl⟩)
    · rename_i ob k hev
      split at h
      · rename_i hlt
        simp only [Option.some.injEq, Prod.mk.injEq] at h
        obtain ⟨rfl, rfl, rfl⟩ := h
        exact .inr (.inr ⟨ob, k, hev, blt_t hlt, rfl, rfl, rfl⟩)
      · cases h
    · rename_i u σ2 hev
      rcases evOp_early he hev with ⟨_, e⟩ | ⟨_, e⟩ | ⟨_, _, e⟩ <;> cases e
    · rename_i f args hev
      rcases evOp_early he hev with ⟨_, e⟩ | ⟨_, e⟩ | ⟨_, _, e⟩ <;> cases e

/-- The evaluator takes ahead whatever it can. -/
theorem saturate {cb : Cb} (hn : n ≤ lim) {t' : Tmps} {σ' : AS} : ∀ (fuel : Nat) (done : Nat) (rem rd : List Row) (t : Tmps) (σ : AS) (kd : Nat → PK), drawA E cb n ops.toList fuel done rem rd t σ = some (t', σ') →
    Inv F E ops rows n γ0 σ0 done rem rd t σ kd γ listed a w →
    ∃ done1 rem1 rd1 t1 σ1 kd1, Inv F E ops rows n γ0 σ0 done1 rem1 rd1 t1 σ1 kd1 γ listed a w ∧ (∃ f0, drawA E cb n ops.toList f0 done1 rem1 rd1 t1 σ1 = some (t', σ')) ∧ ((rem1 = [] ∧ t1 = t' ∧ σ1 = σ') ∨
      ∃ r rem2 v σ2 tag t2 f, rem1.Perm (r :: rem2) ∧ (∀ q ∈ rem1, q.i ≠ r.i → ready done1 q = false) ∧ (∀ q ∈ rem1, q.early = true → ready done1 q = false) ∧ stepV E cb ops.toList r.o t1 σ1 = some (v, σ2, tag) ∧ putA n t1 r.o.dst v = some t2 ∧ (tag = 3 ∨ again E r.pm t2 σ2 rd1 = true) ∧
        drawA E cb n ops.toList f (Nat.lor done1 (Nat.shiftLeft 1 r.i)) rem2 rd1 t2 σ2 = some (t', σ')) := by
  intro fuel
  induction fuel with
  | zero => intro done rem rd t σ kd h; simp [drawA] at h
  | succ fuel ih =>
    intro done rem rd t σ kd h hI
    have h0 := h
    simp only [drawA] at h
    split at h
    · simp only [Option.some.injEq, Prod.mk.injEq] at h
      exact ⟨done, [], rd, t, σ, kd, hI, ⟨_, h0⟩, .inl ⟨rfl, h.1, h.2⟩⟩
    · rename_i x l
      split at h
      · rename_i r rem1 hpk
        obtain ⟨h1, hperm⟩ := pick_ok hpk
        simp only [Bool.and_eq_true] at h1
        obtain ⟨hre, hrdy⟩ := h1
        have hr := (hI.remIn r (hperm.mem_iff.2 (by simp))).1
        split at h
        · rename_i v σ1 tag hs
          split at h
          · rename_i t1 ht
            have hsame : SameAt r.looks t t1 := fun d hd => by
              rw [putA_get ht hn, if_neg]
              intro e
              exact hrows.self r hr hre d e hd
            rw [hrows.looksEq hr] at hsame
            have hw := sameAt_wanted hsame
            have hev := fun σ => sameAt_evOp (E := E) (σ := σ) hsame
            rcases stepV_early hrows hr hre hs with ⟨e1, rfl, rfl, rfl⟩ | ⟨e1, ⟨e2, rfl, rfl⟩ | ⟨e2, rfl, rfl⟩ | ⟨ob, k, e2, hlt, rfl, rfl, rfl⟩⟩ <;> simp only [] at h
            · exact ih _ _ _ _ _ _ h (hI.ahead hrows hn hperm hre hrdy (k := .no) ht (hw.symm.trans e1) (fun _ _ _ e => by cases e) (fun q v hq hk hm he hd => ⟨hm, he⟩) hI.rel (.refl _ _))
            · exact ih _ _ _ _ _ _ h (hI.ahead hrows hn hperm hre hrdy (k := .now v) ht ⟨hw.symm.trans e1, (hev _).symm.trans e2⟩ (fun _ _ _ e => by cases e) (fun q v hq hk hm he hd => ⟨hm, he⟩) hI.rel (.refl _ _))
            · exact ih _ _ _ _ _ _ h (hI.ahead hrows hn hperm hre hrdy (k := .read v) ht ⟨hw.symm.trans e1, by simp, v, (hev _).symm.trans e2, fun _ => rfl⟩ (fun _ _ _ e => by cases e) (fun q v hq hk hm he hd => ⟨List.mem_cons_of_mem _ hm, he⟩) hI.rel (.refl _ _))
            · split at h
              · rename_i ha
                refine ih _ _ _ _ _ _ h (hI.ahead hrows hn hperm hre hrdy (k := .new ob k σ.next) ht ⟨hw.symm.trans e1, (hev _).symm.trans (evOp_new _ e2), Nat.lt_succ_self _, hI.rel.dom _ (Nat.le_refl _), ?_⟩ (fun _ _ _ e => by cases e; exact Nat.le_refl _)
                  (fun q v hq hk hm he hd => ?_) (hI.rel.more hlt ob) (Step.more hI.rel hlt ob))
                · simp only []
                  rw [T.get_put _ _ _ _ (Nat.le_of_lt hlt), if_pos rfl]
                · obtain ⟨u, h1, h2⟩ := again_ok ha q hm (has_zero _)
                  refine ⟨hm, u, h1, fun hne => ?_⟩
                  cases hqd : q.o.dst with
                  | none => exact absurd hqd hne
                  | some d => exact (h2 d v hqd (hd d hqd)).symm
              · cases h
          · cases h
        · cases h
      · rename_i hpk
        have hno := pick_none hpk
        split at h
        · cases h
        · rename_i r rem2 hpk2
          obtain ⟨h1, hperm⟩ := pick_ok hpk2
          split at h
          · cases h
          · rename_i hall
            split at h
            · rename_i v σ2 tag hs
              split at h
              · rename_i t2 ht
                split at h
                · rename_i ha
                  have ha : tag = 3 ∨ again E r.pm t2 σ2 rd = true := by
                    rw [Bool.or_eq_true] at ha
                    exact ha.imp Nat.eq_of_beq_eq_true id
                  refine ⟨done, x :: l, rd, t, σ, kd, hI, ⟨_, h0⟩, .inr ⟨r, rem2, v, σ2, tag, t2, fuel, hperm, fun q hq hne => ?_, fun q hq he => ?_, hs, ht, ha, h⟩⟩
                  · rcases List.mem_cons.1 (hperm.mem_iff.1 hq) with rfl | hq
                    · exact absurd rfl hne
                    · have := List.all_eq_true.1 hall q hq
                      simpa using this
                  · have := hno q hq
                    rw [he] at this
                    simpa using this
                · cases h
              · cases h
            · cases h

omit hrows in
theorem count_set {listed : Array Bool} {i : Nat} (h : i < listed.size) (hf : listed.getD i true = false) : (listed.setIfInBounds i true).toList.count false + 1 = listed.toList.count false := by
  have hf' : listed.toList[i]? = some false := by
    have : listed[i]? = some listed[i] := Array.getElem?_eq_getElem h
    simp [h] at hf
    simp [this, hf]
  rw [Array.toList_setIfInBounds]
  have hi : i < listed.toList.length := by simpa using h
  rw [List.count_set hi]
  have hg : listed.toList[i] = false := by
    rw [List.getElem?_eq_getElem hi] at hf'
    exact Option.some.inj hf'
  have hpos : 0 < listed.toList.count false := List.count_pos_iff.2 (hg ▸ List.getElem_mem hi)
  rw [hg]
  simp only [beq_self_eq_true, if_true]
  rw [if_neg (by simp)]
  omega

include hE in
theorem drawn_ok (hn : n ≤ lim) {cb : Cb} (hcb : CbOk P cb) {t' : Tmps} {σ' : AS} {Q : Exit → Act → World → Prop} (hQ : ∀ γ' a' w', RelL F γ' σ' w' → ConcT γ' n t' a' → Step γ0 σ0 γ' σ' → Q .normal a' w') :
    ∀ (m : Nat) (fuel : Nat) (done : Nat) (rem rd : List Row) (t : Tmps) (σ : AS) (kd : Nat → PK) (γ : Gam) (listed : Array Bool) (a : Act) (w : World), drawA E cb n ops.toList fuel done rem rd t σ = some (t', σ') →
    Inv F E ops rows n γ0 σ0 done rem rd t σ kd γ listed a w → listed.toList.count false ≤ m → wpAny P .any ops Q m listed a w := by
  intro m
  have hnil : ∀ (fuel : Nat) (done : Nat) (rem rd : List Row) (t : Tmps) (σ : AS) (kd : Nat → PK) (γ : Gam) (listed : Array Bool) (a : Act) (w : World), drawA E cb n ops.toList fuel done rem rd t σ = some (t', σ') →
      Inv F E ops rows n γ0 σ0 done rem rd t σ kd γ listed a w → Region.ready .any ops listed = [] → Q .normal a w := by
    intro fuel done rem rd t σ kd γ listed a w h hI hnil
    have hall : ∀ i, i < ops.size → listed.getD i false = true := by
      intro i
      induction i using Nat.strongRecOn with
      | _ i ih =>
        intro hi
        cases hl : listed.getD i false with
        | true => rfl
        | false =>
          exfalso
          have hrow := hrows.all i _ (Array.getElem?_eq_getElem hi)
          have hs : i < listed.size := by rw [hI.size]; exact hi
          have hun : listed.getD i true = false := by simpa [hs] using hl
          have : i ∈ Region.ready .any ops listed := mem_ready.2 ⟨hun, _, Array.getElem?_eq_getElem hi, fun e he hb => by
            have hpm : has (mkRow ops i ops[i]).pm e.on = true := (has_predMask _ _).2 ⟨e, by simpa using he, hb, rfl⟩
            have hlt := hrows.lt _ hrow _ hpm
            have hlt : e.on < i := hlt
            exact ih e.on hlt (by omega)⟩
          rw [hnil] at this
          cases this
    obtain ⟨done1, rem1, rd1, t1, σ1, kd1, hI1, ⟨f0, hf0⟩, hcase⟩ := saturate (hrows := hrows) hn fuel done rem rd t σ kd h hI
    have hrem : rem1 = [] := by
      cases hr : rem1 with
      | nil => rfl
      | cons q l =>
        exfalso
        obtain ⟨h1, h2⟩ := hI1.remIn q (by rw [hr]; simp)
        have := hI1.sub q h1 (hall _ (hrows.idx h1))
        rw [h2] at this; cases this
    rcases hcase with ⟨_, rfl, rfl⟩ | ⟨r, rem2, _, _, _, _, _, hperm, _⟩
    · refine hQ γ a w hI1.rel ⟨hI1.tmps.size, hI1.tmps.defers, fun i v hv => hI1.tmps.get i v ?_⟩ hI1.step
      rw [T.get_mask, if_neg, hv]
      rw [Bool.not_eq_true, pmask_f]
      intro q hq hp
      have h2 := hp.2
      rw [hall _ (hrows.idx hq)] at h2
      cases h2
    · rw [hrem] at hperm
      have := hperm.length_eq
      simp at this
  induction m with
  | zero =>
    intro fuel done rem rd t σ kd γ listed a w h hI hm
    have hr : Region.ready .any ops listed = [] := by
      apply List.eq_nil_iff_forall_not_mem.2
      intro i hi
      have hf := (mem_ready.1 hi).1
      have hlt : i < listed.size := by
        rcases Nat.lt_or_ge i listed.size with h' | h'
        · exact h'
        · simp [Array.getElem?_eq_none h'] at hf
      have := count_set hlt hf
      omega
    exact ⟨hr, hnil fuel done rem rd t σ kd γ listed a w h hI hr⟩
  | succ m ih =>
    intro fuel done rem rd t σ kd γ listed a w h hI hm
    refine ⟨hnil fuel done rem rd t σ kd γ listed a w h hI, fun i hi => ?_⟩
    obtain ⟨r, hr, rfl, hun, hc⟩ := ready_row hrows hi
    have hlt : r.i < listed.size := by rw [hI.size]; exact hrows.idx hr
    have hcnt := count_set hlt hun
    have hunf := getD_false_of hI.size hun
    obtain ⟨done1, rem1, rd1, t1, σ1, kd1, hI1, ⟨f0, hf0⟩, hcase⟩ := saturate (hrows := hrows) hn fuel done rem rd t σ kd h hI
    by_cases hd : has done1 r.i = true
    · refine hI1.pendStep hE hrows hr ⟨hd, hunf⟩ hc fun γ' a' w' hI' => ?_
      exact ih f0 done1 rem1 rd1 t1 σ1 kd1 γ' _ a' w' hf0 hI' (by omega)
    · have hd : has done1 r.i = false := by simpa using hd
      have hrm := (hI1.cover r hr).resolve_left (by rw [hd]; simp)
      have hrdy : ready done1 r = true := ready_t.2 fun j hj => by
        have hlt : j < ops.size := Nat.lt_trans (hrows.lt r hr j hj) (hrows.idx hr)
        exact hI1.sub _ (hrows.all j _ (Array.getElem?_eq_getElem hlt)) (hc j hj)
      rcases hcase with ⟨rfl, rfl, rfl⟩ | ⟨q, rem2, v, σ2, tag, t2, f, hperm, hu1, hu2, hs, ht, ha, hdr⟩
      · cases hrm
      · have hrq : r.i = q.i := by
          by_cases e : r.i = q.i
          · exact e
          · have := hu1 r hrm e
            rw [hrdy] at this; cases this
        have hqr := hrows.eq hr (hI1.remIn q (hperm.mem_iff.2 (by simp))).1 hrq
        subst hqr
        exact hI1.lockStep hE hrows hn hcb hperm hc hs ht ha fun γ' a' w' hI' => ih f _ rem2 rd1 t2 σ2 kd1 γ' _ a' w' hdr hI' (by omega)

end
end Go.Proofs.YtmgpfkoomlgcoaaGreat.Ev
