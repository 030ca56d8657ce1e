/-
  What turns the heap: stores, maps, appends.
-/
import Derived.Test.YtmgpfkoomlgcoaaGreatEvJ
namespace Go.Proofs.YtmgpfkoomlgcoaaGreat.Ev

theorem turn_row (w : World) (b : Nat) (cs : Array Value) : Turn b w (w.setRow b cs) :=
  ⟨rfl, rfl, rfl, by simp [World.setRow], fun c h => setRow_other w b c cs h⟩

theorem set_cells {P : Program} {γ : Gam} {w : World} {l vs : List AV} {elem : TypeId} {p : Place} {ys : List Value} {off : Nat} (h : ObjRel γ (.cells l elem) p w) (hl : off + vs.length ≤ l.length)
    (hv : Concs γ vs ys) (h1 : vs.all AV.one = true) :
    ∃ w', (storeCells ⟨p.block, p.base + off, none⟩ ys).run P w = .ok () w' ∧ ObjRel γ (.cells (setFrom l off vs) elem) p w' ∧ Turn p.block w w' := by
  obtain ⟨c, hb, hs, hlen, hc⟩ := h
  have hyl := concs_length hv
  have hone : ∀ y ∈ ys, y.oneCell' = true := by
    intro y hy
    obtain ⟨i, hi, e⟩ := List.mem_iff_getElem.1 hy
    have hvi : i < vs.length := by omega
    obtain ⟨x, hx, hcx⟩ := concs_get hv i vs[i] (by simp [hvi])
    rw [List.getElem?_eq_getElem hi, e] at hx
    cases hx
    exact conc_one hcx (List.all_eq_true.1 h1 _ (List.getElem_mem hvi))
  have hrun := run_storeCells_at (P := P) p.block (p.base + off) elem ys 0 c w hb (by omega) hone
  refine ⟨_, hrun, ?_, turn_row w p.block _⟩
  rw [Nat.add_zero]
  have hto : (c.toList.take (p.base + off) ++ ys ++ c.toList.drop (p.base + off + ys.length)) = setFrom c.toList (p.base + off) ys := rfl
  rw [hto]
  have hcl : c.toList.length = c.size := by simp
  refine ⟨_, setRow_heap w p.block c _ elem _ hb, ?_, ?_, ?_⟩
  · simp only [List.size_toArray]
    rw [setFrom_length _ _ _ (by rw [hcl]; omega), hcl, hs]
  · rw [setFrom_length _ _ _ hl]; exact hlen
  · intro i v hiv
    rw [setFrom_get _ _ _ _ hl] at hiv
    simp only [List.getElem?_toArray]
    rw [setFrom_get _ _ _ _ (by rw [hcl]; omega)]
    by_cases hin : off ≤ i ∧ i < off + vs.length
    · rw [if_pos hin] at hiv
      rw [if_pos (by omega)]
      obtain ⟨x, hx, hcx⟩ := concs_get hv _ v hiv
      exact ⟨x, by rw [show p.base + i - (p.base + off) = i - off by omega]; exact hx, hcx⟩
    · rw [if_neg hin] at hiv
      rw [if_neg (by omega)]
      obtain ⟨x, hx, hcx⟩ := hc i v hiv
      exact ⟨x, by simpa using hx, hcx⟩

/-- set_cells in the whole. -/
theorem RelL.store {F : Frz} {P : Program} {γ : Gam} {σ : AS} {w : World} (h : RelL F γ σ w) {o off : Nat} {a : Addr} {l vs : List AV} {elem : TypeId} {ys : List Value} (hg : σ.heap.get o = some (.cells l elem)) (ha : atP γ o off a)
    (hl : off + vs.length ≤ l.length) (hv : Concs γ vs ys) (h1 : vs.all AV.one = true) :
    ∃ w', (storeCells a ys).run P w = .ok () w' ∧ RelL F γ { σ with heap := σ.heap.put o (.cells (setFrom l off vs) elem) } w' ∧ Step γ σ γ { σ with heap := σ.heap.put o (.cells (setFrom l off vs) elem) } := by
  obtain ⟨p, hp, hob⟩ := h.find hg (by simp) ha.ne
  obtain rfl := ha.at hp
  obtain ⟨w', h2, h3, h4⟩ := set_cells (P := P) hob hl hv h1
  exact ⟨w', h2, h.set hp (by simp) h3 h4, Step.set h _ hp⟩

/-- a map gets other entries -/
theorem RelL.entries {F : Frz} {P : Program} {γ : Gam} {σ : AS} {w : World} (h : RelL F γ σ w) {o r : Nat} {es fs : List (AV × AV × Nat)} {clock clock' : Nat} (hg : σ.heap.get o = some (.map es clock)) (hr : mapP γ o r) :
    ∃ es' : Array MapEntry, w.heap[r]? = some (.map es' clock) ∧ EntRel γ es es'.toList ∧ ∀ fs' : Array MapEntry, EntRel γ fs fs'.toList →
      (Go.setObj r (.map fs' clock')).run P w = .ok () { w with heap := w.heap.setIfInBounds r (.map fs' clock') } ∧ RelL F γ { σ with heap := σ.heap.put o (.map fs clock') } { w with heap := w.heap.setIfInBounds r (.map fs' clock') } ∧
      Step γ σ γ { σ with heap := σ.heap.put o (.map fs clock') } := by
  obtain ⟨p, hp, es', hb, he⟩ := h.find hg (by simp) hr.ne
  obtain rfl := hr.at hp
  refine ⟨es', hb, he, fun fs' hf => ⟨?_, h.set hp (by simp) ⟨fs', ?_, hf⟩ ?_, Step.set h _ hp⟩⟩
  · simp [Go.setObj, Sem.run, hb]
  · have := (Array.getElem?_eq_some_iff.1 hb).1
    simp [this]
  · exact turn_set w p.block _
end Go.Proofs.YtmgpfkoomlgcoaaGreat.Ev
