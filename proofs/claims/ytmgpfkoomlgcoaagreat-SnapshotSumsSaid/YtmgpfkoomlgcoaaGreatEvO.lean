/-
  Every operation that turns the heap, and every call.
-/
import Derived.Test.YtmgpfkoomlgcoaaGreatEvN
namespace Go.Proofs.YtmgpfkoomlgcoaaGreat.Ev

section
variable {F : Frz} {P : Program} {E : Env} (hE : EnvOk P E) {γ : Gam} {σ : AS} {w : World} {t : Tmps} {ρ : Operand → Value}
include hE

omit hE in
theorem next_ok (hR : RelL F γ σ w) {it v : AV} {σ' : AS} (h : iterA σ it = some (v, σ')) {y : Value} (hx : Conc γ it y) {ty : TypeId} :
    ∃ w' u, (Instr.next y false ty).run P w = .ok u w' ∧ Conc γ v u ∧ RelL F γ σ' w' ∧ Step γ σ γ σ' := by
  unfold iterA at h
  split at h
  · rename_i r0
    split at h
    · rename_i m since seen last hg
      split at h
      · rename_i es clock hm
        split at h
        · cases h
        · rename_i hcond
          simp only [Conc] at hx
          obtain ⟨a, rfl, ha⟩ := hx
          obtain ⟨p, hp, hb0, rr, hb, hmr⟩ := hR.find hg (by simp) ha.ne
          obtain rfl := ha.at hp
          obtain ⟨q, hq, es', hbm, he⟩ := hR.find hm (by simp) hmr.ne
          obtain rfl := hmr.at hq
          have hg1 : (getObj p.block).run P w = .ok (.mapIter (some q.block) since seen.toArray last) w := by simp [getObj, Sem.run, hb]
          have hg2 : (getObj q.block).run P w = .ok (.map es' clock) w := by simp [getObj, Sem.run, hbm]
          have hlen := entRel_length he
          have hc1 : es'.isEmpty = es.isEmpty := by
            cases es with
            | nil => simp at hlen; simp [hlen]
            | cons e es => cases hes : es'.isEmpty with
              | true => simp at hes; subst hes; simp at hlen
              | false => rfl
          have hc2 : es'.all (·.born ≥ last) = es.all (fun e => Nat.ble last e.2.2) := by
            have := entRel_all (fun b => decide (b ≥ last)) he
            rw [← Array.all_toList, this]
            congr 1
            funext e
            rw [Bool.eq_iff_iff, decide_eq_true_iff]
            exact ⟨fun h => Nat.ble_eq_true_of_le h, fun h => Nat.le_of_ble_eq_true h⟩
          have hcond' : (!seen.toArray.isEmpty && !es'.isEmpty && es'.all (·.born ≥ last)) = false := by
            rw [hc1, hc2]
            simpa using hcond
          have hleft := entRel_filter (fun b => !seen.contains b) he
          have hold := entRel_filter (fun b => Nat.blt b since) hleft
          have hnew := entRel_filter (fun b => Nat.ble since b) hleft
          have e1 : (es'.filter fun e => !seen.toArray.contains e.born).toList = es'.toList.filter fun e => !seen.contains e.born := by simp
          have e2 : ((es'.filter fun e => !seen.toArray.contains e.born).filter (·.born < since)).toList = (es'.toList.filter fun e => !seen.contains e.born).filter fun e => Nat.blt e.born since := by
            rw [Array.toList_filter, e1]
            congr 1
            funext e
            rw [Bool.eq_iff_iff, decide_eq_true_iff]
            exact ⟨fun h => Nat.ble_eq_true_of_le h, fun h => Nat.le_of_ble_eq_true h⟩
          have e3 : ((es'.filter fun e => !seen.toArray.contains e.born).filter (·.born ≥ since)).toList = (es'.toList.filter fun e => !seen.contains e.born).filter fun e => Nat.ble since e.born := by
            rw [Array.toList_filter, e1]
            congr 1
            funext e
            rw [Bool.eq_iff_iff, decide_eq_true_iff]
            exact ⟨fun h => Nat.ble_eq_true_of_le h, fun h => Nat.le_of_ble_eq_true h⟩
          simp only [] at h
          split at h
          · -- over
            rename_i hh1 hh2
            simp only [Option.some.injEq, Prod.mk.injEq] at h
            obtain ⟨rfl, rfl⟩ := h
            rw [hh1] at hold
            rw [hh2] at hnew
            simp only [EntRel] at hold hnew
            rw [hold] at e2
            rw [hnew] at e3
            have e2' : (es'.filter fun e => !seen.toArray.contains e.born).filter (·.born < since) = #[] := by simpa using e2
            have e3' : (es'.filter fun e => !seen.toArray.contains e.born).filter (·.born ≥ since) = #[] := by simpa using e3
            refine ⟨w, .tuple #[.bool false], ?_, ?_, hR, .refl γ σ⟩
            · unfold Instr.next
              rw [hb0]
              simp only [Sem.run_bind, hg1, Result.andThen_ok, hg2, hcond', Bool.false_eq_true, if_false, e2', e3']
              have : ((if (#[] : Array MapEntry).isEmpty = true then #[none] else #[]) ++ Array.map some ((#[] : Array MapEntry) ++ #[]) : Array (Option MapEntry)) = #[none] := by simp
              rw [this]
              simp only [run_choose]
              have hq : (Question.mapNext (#[(none : Option MapEntry)] : Array (Option MapEntry)).size).forced = true := rfl
              simp only [hq, if_true, Result.andThen_ok]
              rfl
            · simp only [Conc]
              exact ⟨_, rfl, by simp only [Concs]; exact ⟨.bool false, [], rfl, conc_lit γ _, rfl⟩⟩
          · -- one entry
            rename_i k u born hh1 hh2
            simp only [Option.some.injEq, Prod.mk.injEq] at h
            obtain ⟨rfl, rfl⟩ := h
            rw [hh1] at hold
            rw [hh2] at hnew
            simp only [EntRel] at hold hnew
            obtain ⟨k', u', rest, hr1, hk, hu, rfl⟩ := hold
            rw [hr1] at e2
            rw [hnew] at e3
            have e2' : (es'.filter fun e => !seen.toArray.contains e.born).filter (·.born < since) = #[⟨k', u', born⟩] := Array.toList_inj.1 e2
            have e3' : (es'.filter fun e => !seen.toArray.contains e.born).filter (·.born ≥ since) = #[] := by simpa using e3
            have hset : (Go.setObj p.block (.mapIter (some q.block) since (seen.toArray.push born) clock)).run P w = .ok () { w with heap := w.heap.setIfInBounds p.block (.mapIter (some q.block) since (seen.toArray.push born) clock) } := by
              simp [Go.setObj, Sem.run, hb]
            have hlt := (Array.getElem?_eq_some_iff.1 hb).1
            refine ⟨_, .tuple #[.bool true, k', u'], ?_, ?_, RelL.set (w' := { w with heap := w.heap.setIfInBounds p.block (.mapIter (some q.block) since (seen.toArray.push born) clock) }) hR hp (by simp) ?_ ?_, Step.set hR _ hp⟩
            · unfold Instr.next
              rw [hb0]
              simp only [Sem.run_bind, hg1, Result.andThen_ok, hg2, hcond', Bool.false_eq_true, if_false, e2', e3']
              have : ((if (#[⟨k', u', born⟩] : Array MapEntry).isEmpty = true then #[none] else #[]) ++ Array.map some (#[⟨k', u', born⟩] ++ #[]) : Array (Option MapEntry)) = #[some ⟨k', u', born⟩] := by simp
              rw [this]
              simp only [run_choose]
              have hq : (Question.mapNext (#[some (⟨k', u', born⟩ : MapEntry)] : Array (Option MapEntry)).size).forced = true := rfl
              simp only [hq, if_true, Result.andThen_ok]
              have : (#[some (⟨k', u', born⟩ : MapEntry)] : Array (Option MapEntry))[0]? = some (some ⟨k', u', born⟩) := rfl
              rw [this]
              simp only [Sem.run_bind, hset, Result.andThen_ok, Sem.run_pure]
            · simp only [Conc]
              exact ⟨_, rfl, by simp only [Concs]; exact ⟨.bool true, [k', u'], rfl, conc_lit γ _, k', [u'], rfl, hk, u', [], rfl, hu, rfl⟩⟩
            · refine ⟨hb0, q.block, ?_, by unfold mapP; rw [hq]⟩
              simp [hlt]
            · exact turn_set w p.block _
          · cases h
      · cases h
    · cases h
  · cases h

theorem act_ok (hR : RelL F γ σ w) (hρ : OpRel γ t ρ) (o : Oper) {v : AV} {σ' : AS} (h : evOp E t σ o.op = some (.act v σ')) :
    ∃ γ' w' n, (execOp ρ o).run P w = .ok n w' ∧ ((∃ x, n = .value x ∧ Conc γ' v x) ∨ (n = .skip ∧ v = undefV)) ∧ RelL F γ' σ' w' ∧ Step γ σ γ' σ' := by
  obtain ⟨dst, op, type, pos, after, guard⟩ := o
  simp only [] at h
  cases op <;> simp only [evOp] at h
  case assign x =>
    obtain ⟨u, hu, e⟩ := Option.map_eq_some_iff.1 h
    cases e
    exact ⟨γ, w, .value (ρ x), rfl, .inl ⟨_, rfl, hρ _ _ hu⟩, hR, .refl γ σ⟩
  case store ty a x =>
    split at h
    · rename_i av xv ha hx
      obtain ⟨u, hu, e⟩ := Option.map_eq_some_iff.1 h
      cases e
      obtain ⟨w', h1, h2, h3⟩ := store_ok hE hR hu (hρ _ _ ha) (hρ _ _ hx)
      refine ⟨γ, w', .skip, ?_, .inr ⟨rfl, rfl⟩, h2, h3⟩
      simp only [execOp, Sem.run_bind, h1, Result.andThen_ok, Sem.run_pure]
    · cases h
  case mapUpdate ty m k x =>
    split at h
    · rename_i mv kv xv hm hk hx
      obtain ⟨u, hu, e⟩ := Option.map_eq_some_iff.1 h
      cases e
      obtain ⟨w', h1, h2, h3⟩ := update_ok hE hR hu (hρ _ _ hm) (hρ _ _ hk) (hρ _ _ hx)
      refine ⟨γ, w', .skip, ?_, .inr ⟨rfl, rfl⟩, h2, h3⟩
      simp only [execOp, Sem.run_bind, h1, Result.andThen_ok, Sem.run_pure]
    · cases h
  case insert ty m k x =>
    split at h
    · rename_i mv kv xv hm hk hx
      obtain ⟨u, hu, e⟩ := Option.map_eq_some_iff.1 h
      cases e
      obtain ⟨w', h1, h2, h3⟩ := update_ok hE hR hu (hρ _ _ hm) (hρ _ _ hk) (hρ _ _ hx)
      refine ⟨γ, w', .skip, ?_, .inr ⟨rfl, rfl⟩, h2, h3⟩
      simp only [execOp, Sem.run_bind, h1, Result.andThen_ok, Sem.run_pure]
    · cases h
  case range ty x =>
    split at h
    · rename_i r o hr hx
      split at h
      · rename_i kt et es clock hd hg
        split at h
        · rename_i hlt
          have hlt := blt_t hlt
          simp only [Option.some.injEq, Out.act.injEq] at h
          obtain ⟨rfl, rfl⟩ := h
          have hc := hρ _ _ hx
          simp only [Conc] at hc
          obtain ⟨b, hb, hmb⟩ := hc
          obtain ⟨p, hp, es', hbm, he⟩ := hR.find hg (by simp) hmb.ne
          obtain rfl := hmb.at hp
          have hg0 : γ σ.next = none := hR.dom _ (Nat.le_refl _)
          have hm := hR.more hlt (.iter o clock [] clock)
          have hget : (σ.heap.put σ.next (AObj.iter o clock [] clock)).get σ.next = some (.iter o clock [] clock) := by rw [T.get_put _ _ _ _ (Nat.le_of_lt hlt)]; simp
          have hx := ext_upd (some ⟨w.heap.size, 0, 0⟩) hg0
          refine ⟨upd γ σ.next (some ⟨w.heap.size, 0, 0⟩), { w with heap := w.heap.push (.mapIter (some p.block) clock #[] clock) }, .value (.pointer (some ⟨w.heap.size, 0, none⟩)), ?_, .inl ⟨_, rfl, ?_⟩, hm.place (id := σ.next) (base := 0) (top := 0) (by simp) hg0 hget (by simp) _ ?_, Step.place _ hg0 σ (Nat.le_refl _) (Step.more hR hlt _)⟩
          · have hg1 : (getObj p.block).run P w = .ok (.map es' clock) w := by simp [getObj, Sem.run, hbm]
            simp only [execOp]
            refine run_v ?_
            rw [hb]
            unfold Instr.range
            simp only [Sem.run_bind, run_und hE hr w, hd, Result.andThen_ok, hg1, Sem.run_pure, run_newObj]
          · simp only [Conc]
            exact ⟨_, rfl, by unfold atP; rw [upd_self]⟩
          · refine ⟨rfl, p.block, by simp, hmb.mono hx⟩
        · cases h
      · cases h
    · cases h
  case next it isString =>
    split at h
    · rename_i iv hi
      obtain ⟨⟨u, σ2⟩, hu, e⟩ := Option.map_eq_some_iff.1 h
      cases e
      obtain ⟨w', z, h1, h2, h3, h4⟩ := next_ok (P := P) (ty := type) hR hu (hρ _ _ hi)
      exact ⟨γ, w', .value z, by simp only [execOp]; exact run_v h1, .inl ⟨_, rfl, h2⟩, h3, h4⟩
    · cases h
  case call c =>
    split at h
    · cases h
    · rename_i args hargs
      have hc := concs_allSome hρ hargs
      split at h
      · split at h
        · unfold fnCall at h
          split at h <;> cases h
        · cases h
      · rename_i b hcal
        simp only [execOp, resolve, hcal, invoke, builtin]
        have get : ∀ (i : Nat) (v : AV), args[i]? = some v → ∃ x, (c.args.map ρ)[i]? = some x ∧ Conc γ v x := by
          intro i v hv
          obtain ⟨x, hx, hcx⟩ := concs_get hc i v hv
          exact ⟨x, by rw [← Array.getElem?_toList, Array.toList_map]; exact hx, hcx⟩
        unfold builtinA at h
        split at h
        · obtain ⟨u, hu, e⟩ := Option.map_eq_some_iff.1 h
          cases e
        · rename_i ty rest s x hts
          split at h
          · rename_i xt hts2
            split at h
            · rename_i xr hxr
              split at h
              · cases h
              · rename_i hxd
                obtain ⟨⟨u, σ2⟩, hu, e⟩ := Option.map_eq_some_iff.1 h
                cases e
                obtain ⟨s', hs1, hs2⟩ := get 0 s rfl
                obtain ⟨x', hx1, hx2⟩ := get 1 x rfl
                obtain ⟨γ', w', z, h1, h2, h3, h4⟩ := append_ok hE hR (tt := type) (ts := c.argTypes) (ys := c.args.map ρ) hu hs2 hx2 (by rw [← Array.getElem?_toList, hts]; rfl) (by rw [← Array.getElem?_toList, hts2]; rfl) hs1 hx1 hxr (fun k => hxd k)
                refine ⟨γ', w', .value z, ?_, .inl ⟨_, rfl, h2⟩, h3, h4⟩
                simp only [Sem.run_bind, Sem.run_pure, Result.andThen_ok, builtin, h1]
            · cases h
          · cases h
        · rename_i ty rest d x hts
          obtain ⟨⟨u, σ2⟩, hu, e⟩ := Option.map_eq_some_iff.1 h
          cases e
          obtain ⟨d', hd1, hd2⟩ := get 0 d rfl
          obtain ⟨x', hx1, hx2⟩ := get 1 x rfl
          obtain ⟨w', z, h1, h2, h3, h4⟩ := copy_ok hE hR (tt := type) (ts := c.argTypes) (ys := c.args.map ρ) hu hd2 hx2 (by rw [← Array.getElem?_toList, hts]; rfl) hd1 hx1
          refine ⟨γ, w', .value z, ?_, .inl ⟨_, rfl, h2⟩, h3, h4⟩
          simp only [Sem.run_bind, Sem.run_pure, Result.andThen_ok, builtin, h1]
        · rename_i ty rest m k hts
          obtain ⟨σ2, hu, e⟩ := Option.map_eq_some_iff.1 h
          cases e
          obtain ⟨m', hm1, hm2⟩ := get 0 m rfl
          obtain ⟨k', hk1, hk2⟩ := get 1 k rfl
          obtain ⟨w', h1, h3, h4⟩ := delete_ok hE hR (tt := type) (ts := c.argTypes) (ys := c.args.map ρ) hu hm2 hk2 (by rw [← Array.getElem?_toList, hts]; rfl) hm1 hk1
          refine ⟨γ, w', .value (.tuple #[]), ?_, .inl ⟨_, rfl, conc_lit γ _⟩, h3, h4⟩
          simp only [Sem.run_bind, Sem.run_pure, Result.andThen_ok, builtin, h1]
        · obtain ⟨u, hu, e⟩ := Option.map_eq_some_iff.1 h
          cases e
        · obtain ⟨u, hu, e⟩ := Option.map_eq_some_iff.1 h
          cases e
        · cases h
      · (repeat' split at h) <;> cases h
  case convert src dst x =>
    split at h
    · unfold convA at h
      (repeat' split at h) <;> first | cases h | (obtain ⟨_, _, e⟩ := Option.map_eq_some_iff.1 h; cases e)
    · cases h
  all_goals
    (repeat' split at h) <;> first | cases h | (obtain ⟨_, _, e⟩ := Option.map_eq_some_iff.1 h; cases e)

end
end Go.Proofs.YtmgpfkoomlgcoaaGreat.Ev
