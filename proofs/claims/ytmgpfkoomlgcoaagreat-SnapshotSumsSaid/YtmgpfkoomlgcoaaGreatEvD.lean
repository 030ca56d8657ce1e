/-
  What the evaluator's operations give: values and reads.
-/
import Derived.Test.YtmgpfkoomlgcoaaGreatEvC
namespace Go.Proofs.YtmgpfkoomlgcoaaGreat.Ev

theorem addr_add (b o j : Nat) : (⟨b, o, none⟩ : Addr).add j = ⟨b, o + j, none⟩ := by
  unfold Addr.add
  by_cases hj : j = 0 <;> simp [hj]

section
variable {P : Program} {E : Env} (hE : EnvOk P E) {γ : Gam} {σ : AS} {w : World}
include hE

theorem part_ok {t : TypeId} {cs : List AV} {xs : Array Value} {off : Nat} {v : AV} (h : partOf E t cs off = some v) (hc : Concs γ cs xs.toList) :
    ∃ x, (part t xs off).run P w = .ok x w ∧ Conc γ v x := by
  unfold partOf at h
  cases hr : E.ty t with
  | none => rw [hr] at h; simp at h
  | some r =>
    rw [hr] at h
    simp only [] at h
    unfold part
    simp only [Sem.run_bind, run_agg hE hr, Result.andThen_ok]
    cases ha : isAggD r.und with
    | true =>
      rw [ha] at h
      simp only [] at h
      split at h
      · rename_i hle
        have hle := Nat.le_of_ble_eq_true hle
        simp only [Option.some.injEq] at h
        subst h
        simp only [if_true, Sem.run_bind, run_size hE hr, Result.andThen_ok, Sem.run_pure]
        refine ⟨_, rfl, ?_⟩
        simp only [Conc]
        refine ⟨_, rfl, ?_⟩
        have := concs_take (concs_drop hc off) r.info.size
        rw [Array.toList_extract, List.extract_eq_take_drop]
        rwa [Nat.add_sub_cancel_left]
      · simp at h
    | false =>
      rw [ha] at h
      simp only [] at h
      obtain ⟨x, hx, hcx⟩ := concs_get hc off v h
      have hx' : xs[off]? = some x := by simpa using hx
      simp only [Bool.false_eq_true, if_false, hx', Sem.run_pure]
      exact ⟨x, rfl, hcx⟩

theorem load_ok (hR : Rel γ σ w) {t : TypeId} {o off : Nat} {a : Addr} {v : AV} (h : loadAt E σ t o off = some v) (ha : atP γ o off a) :
    ∃ x, (loadVar t a).run P w = .ok x w ∧ Conc γ v x := by
  unfold loadAt at h
  split at h
  · rename_i l elem hg
    obtain ⟨p, hp, hob⟩ := hR.find hg (by simp) ha.ne
    obtain rfl := ha.at hp
    obtain ⟨c, hb, hs, hl, hcs⟩ := hob
    have hcell : ∀ i u, l[i]? = some u → ∃ x, w.cell? ⟨p.block, p.base + i, none⟩ = some x ∧ Conc γ u x := by
      intro i u hu
      obtain ⟨x, hx, hcx⟩ := hcs i u hu
      exact ⟨x, by simp [World.cell?, hb, hx], hcx⟩
    unfold partOf at h
    cases hr : E.ty t with
    | none => rw [hr] at h; simp at h
    | some r =>
      rw [hr] at h
      simp only [] at h
      unfold loadVar
      simp only [Sem.run_bind, run_agg hE hr, Result.andThen_ok]
      cases hag : isAggD r.und with
      | true =>
        rw [hag] at h
        simp only [] at h
        split at h
        · rename_i hle
          have hle := Nat.le_of_ble_eq_true hle
          simp only [Option.some.injEq] at h
          subst h
          have hlen : ((c.toList.drop (p.base + off)).take r.info.size).length = r.info.size := by
            simp; omega
          have hrun := run_loadCells_list (P := P) w ⟨p.block, p.base + off, none⟩ ((c.toList.drop (p.base + off)).take r.info.size) (by
            intro j u hu
            rw [addr_add]
            have hj : j < r.info.size := by
              have := (List.getElem?_eq_some_iff.1 hu).1
              rw [hlen] at this; exact this
            rw [List.getElem?_take, if_pos hj, List.getElem?_drop] at hu
            simp only [World.cell?, hb, Option.isSome_none, Bool.false_eq_true, if_false]
            simpa using hu)
          rw [hlen] at hrun
          simp only [if_true, Sem.run_bind, run_size hE hr, Result.andThen_ok, hrun, Sem.run_pure]
          refine ⟨_, rfl, ?_⟩
          simp only [Conc]
          refine ⟨_, rfl, ?_⟩
          simp only []
          refine concs_of (by rw [hlen]; simp; omega) fun i u hu => ?_
          rw [List.getElem?_take] at hu
          split at hu
          · rename_i hi
            rw [List.getElem?_drop] at hu
            obtain ⟨x, hx, hcx⟩ := hcs _ u hu
            refine ⟨x, ?_, hcx⟩
            rw [List.getElem?_take, if_pos hi, List.getElem?_drop, Nat.add_assoc]
            simpa using hx
          · simp at hu
        · simp at h
      | false =>
        rw [hag] at h
        simp only [] at h
        obtain ⟨x, hx, hcx⟩ := hcell off v h
        simp only [Bool.false_eq_true, if_false, run_load, hx]
        exact ⟨x, rfl, hcx⟩
  · simp at h

end
end Go.Proofs.YtmgpfkoomlgcoaaGreat.Ev
