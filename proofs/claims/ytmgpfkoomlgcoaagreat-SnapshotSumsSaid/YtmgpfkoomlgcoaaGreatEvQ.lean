/-
  One operation, and a region in its own order.
-/
import Derived.Test.YtmgpfkoomlgcoaaGreatEvP
namespace Go.Proofs.YtmgpfkoomlgcoaaGreat.Ev

section
variable {F : Frz} {P : Program} {E : Env} (hE : EnvOk P E) {γ : Gam} {σ : AS} {w : World} {t : Tmps}
include hE

theorem stepV_ok {cb : Cb} (hcb : CbOk P cb) {ops : Array Oper} {o : Oper} {i n : Nat} {v : AV} {σ' : AS} {tag : Nat} {a : Act} (h : stepV E cb ops.toList o t σ = some (v, σ', tag)) (hi : ops[i]? = some o)
    (hR : RelL F γ σ w) (hT : ConcT γ n t a) {K : Act → World → Prop} {Q : Exit → Act → World → Prop} (hK : ∀ γ' x w', Conc γ' v x → RelL F γ' σ' w' → Step γ σ γ' σ' → K (a.put o.dst x) w') : wpOp P ops Q i K a w := by
  unfold stepV at h
  unfold wpOp
  simp only [hi]
  cases hw : wantedA ops.toList t o with
  | none => rw [hw] at h; cases h
  | some b =>
    rw [hw] at h
    have hwant := wanted_ok (a := a) (γ := γ) (n := n) hw fun d u _ hu => hT.get d u hu
    have hρ := hT.opnd
    cases b with
    | false =>
      simp only [Option.some.injEq, Prod.mk.injEq] at h
      obtain ⟨rfl, rfl, rfl⟩ := h
      rw [hwant]
      simp only [Bool.false_eq_true, if_false]
      exact hK γ undef w (conc_lit γ _) hR (.refl γ σ)
    | true =>
      rw [hwant]
      simp only [if_true]
      refine .inl ?_
      unfold Oper.wp
      simp only [] at h
      split at h
      · cases h
      · rename_i u hev
        simp only [Option.some.injEq, Prod.mk.injEq] at h
        obtain ⟨rfl, rfl, rfl⟩ := h
        obtain ⟨x, h1, h2⟩ := val_ok hE hR.toRel hρ o hev (.inl rfl)
        rw [h1, Oper.upon_value]
        exact hK γ x w h2 hR (.refl γ σ)
      · rename_i u hev
        simp only [Option.some.injEq, Prod.mk.injEq] at h
        obtain ⟨rfl, rfl, rfl⟩ := h
        obtain ⟨x, h1, h2⟩ := val_ok hE hR.toRel hρ o hev (.inr rfl)
        rw [h1, Oper.upon_value]
        exact hK γ x w h2 hR (.refl γ σ)
      · rename_i ob k hev
        split at h
        · rename_i hlt
          have hlt := blt_t hlt
          simp only [Option.some.injEq, Prod.mk.injEq] at h
          obtain ⟨rfl, rfl, rfl⟩ := h
          obtain ⟨hd, cob, x, top, h1, h2⟩ := new_ok hE (σ := σ) (w := w) hρ o hev
          have hg0 : γ σ.next = none := hR.dom _ (Nat.le_refl _)
          have hm := hR.more hlt ob
          have hget : (σ.heap.put σ.next ob).get σ.next = some ob := by rw [T.get_put _ _ _ _ (Nat.le_of_lt hlt)]; simp
          have hrel := h2 (upd γ σ.next (some ⟨w.heap.size, 0, top⟩)) σ.next { w with heap := w.heap.push cob } (ext_upd _ hg0) (upd_self _ _ _) (by simp)
          rw [h1, Oper.upon_value]
          exact hK _ x _ hrel.2 (hm.place (id := σ.next) (by simp) hg0 hget hd cob 0 top hrel.1) (Step.place _ hg0 σ (Nat.le_refl _) (Step.more hR hlt _))
        · cases h
      · rename_i u σ2 hev
        simp only [Option.some.injEq, Prod.mk.injEq] at h
        obtain ⟨rfl, rfl, rfl⟩ := h
        obtain ⟨γ', w', nx, h1, h2, h3, h4⟩ := act_ok hE hR hρ o hev
        rw [h1]
        rcases h2 with ⟨x, rfl, hx⟩ | ⟨rfl, rfl⟩
        · rw [Oper.upon_value]; exact hK γ' x w' hx h3 h4
        · rw [Oper.upon_skip]; exact hK γ' undef w' (conc_lit γ' _) h3 h4
      · rename_i f args hev
        split at h
        · rename_i hlone
          rw [Bool.and_eq_true] at hlone
          obtain ⟨ys, hys⟩ := Option.isSome_iff_exists.1 hlone.2
          split at h
          · rename_i u σ2 hc
            split at h
            · rename_i y hy
              simp only [Option.some.injEq, Prod.mk.injEq] at h
              obtain ⟨rfl, rfl, rfl⟩ := h
              obtain ⟨xs, hxs, hrun⟩ := call_ok hE (w := w) hρ o hev
              have hxs' : Concs emp args xs.toList := by
                rw [flats_conc args ys _ hys hxs]
                exact concs_flat args ys hys
              obtain ⟨c1, c2⟩ := hcb f args σe _ _ hc (frz w emp) emp w xs (rel_start w) hxs'
              rw [hrun, c1, Oper.upon_enter]
              refine c2 _ fun γ' x w' hx hr _ => ?_
              rw [flat_conc u y x hy hx]
              exact hK γ y w' (conc_flat u y hy) (hR.grown (below_of hr.frame)) (.refl γ σ)
            · cases h
          · cases h
        split at h
        · rename_i u σ2 hc
          simp only [Option.some.injEq, Prod.mk.injEq] at h
          obtain ⟨rfl, rfl, rfl⟩ := h
          obtain ⟨xs, hxs, hrun⟩ := call_ok hE (w := w) hρ o hev
          obtain ⟨c1, c2⟩ := hcb f args σ _ _ hc F γ w xs hR hxs
          rw [hrun, c1, Oper.upon_enter]
          exact c2 _ fun γ' x w' hx hr hs => hK γ' x w' hx hr hs
        · cases h

theorem runA_ok {cb : Cb} (hcb : CbOk P cb) {ops : Array Oper} {n : Nat} (hn : n ≤ lim) {Q : Exit → Act → World → Prop} : ∀ (l : List Oper) (i : Nat) (t t' : Tmps) (σ σ' : AS) (γ : Gam) (w : World) (a : Act),
    runA E cb n ops.toList l t σ = some (t', σ') → ops.toList.drop i = l → RelL F γ σ w → ConcT γ n t a →
    (∀ γ' a' w', RelL F γ' σ' w' → ConcT γ' n t' a' → Step γ σ γ' σ' → Q .normal a' w') → wpOps P ops Q ((List.range (ops.size - i)).map (· + i)) a w
  | [], i, t, t', σ, σ', γ, w, a, h, hd, hR, hT, hQ => by
    simp only [runA, Option.some.injEq, Prod.mk.injEq] at h
    obtain ⟨rfl, rfl⟩ := h
    have : ops.size - i = 0 := by
      have := congrArg List.length hd
      simpa using this
    rw [this]
    exact hQ γ a w hR hT (.refl γ σ)
  | o :: rest, i, t, t', σ, σ', γ, w, a, h, hd, hR, hT, hQ => by
    have hlt : i < ops.size := by
      have := congrArg List.length hd
      simp at this
      omega
    have hi : ops[i]? = some o := by
      have h1 : ops.toList[i]? = some o := by
        have : (ops.toList.drop i)[0]? = some o := by rw [hd]; rfl
        rw [List.getElem?_drop] at this
        simpa using this
      simpa using h1
    have hrest : ops.toList.drop (i + 1) = rest := by
      have := congrArg List.tail hd
      simpa [List.tail_drop] using this
    rw [show ops.size - i = (ops.size - (i + 1)) + 1 by omega, List.range_succ_eq_map, List.map_cons, List.map_map, wpOps_cons, Nat.zero_add]
    have hfun : ((fun x => x + i) ∘ Nat.succ) = (fun x => x + (i + 1)) := by funext x; simp; omega
    rw [hfun]
    simp only [runA] at h
    split at h
    · rename_i v σ1 tag hs
      split at h
      · rename_i t1 hp
        refine stepV_ok hE hcb hs hi hR hT fun γ1 x w1 hx hR1 hS1 => ?_
        exact runA_ok hcb hn rest (i + 1) t1 t' σ1 σ' γ1 w1 _ h hrest hR1 (put_ok (hT.mono hS1.ext) hp hn hx) fun γ' a' w' h1 h2 h3 => hQ γ' a' w' h1 h2 (hS1.trans h3)
      · cases h
    · cases h

end
end Go.Proofs.YtmgpfkoomlgcoaaGreat.Ev
