/-
  What makes new objects, and what turns the heap.
-/
import Derived.Test.YtmgpfkoomlgcoaaGreatEvI
import Derived.Below
namespace Go.Proofs.YtmgpfkoomlgcoaaGreat.Ev

def upd (γ : Gam) (id : Nat) (q : Option Place) : Gam := fun o => if o = id then some q else γ o

theorem upd_self (γ : Gam) (id : Nat) (q : Option Place) : upd γ id q id = some q := by simp [upd]
theorem upd_ne (γ : Gam) {id o : Nat} (q : Option Place) (h : o ≠ id) : upd γ id q o = γ o := by simp [upd, h]
theorem ext_upd {γ : Gam} {id : Nat} (q : Option Place) (h : γ id = none) : Ext γ (upd γ id q) := fun o p hp => by
  have : o ≠ id := fun e => by rw [e, h] at hp; cases hp
  rw [upd_ne γ q this]; exact .inl hp
theorem ext_kill {γ : Gam} (id : Nat) : Ext γ (upd γ id none) := fun o p hp => by
  by_cases e : o = id
  · subst e; exact .inr (upd_self γ o none)
  · rw [upd_ne γ none e]; exact .inl hp

theorem ObjRel.mono {γ γ' : Gam} (hx : Ext γ γ') {ob : AObj} {p : Place} {w w' : World} (hw : w'.heap[p.block]? = w.heap[p.block]?) (h : ObjRel γ ob p w) : ObjRel γ' ob p w' := by
  cases ob with
  | cells l elem =>
    obtain ⟨c, hb, hs, hl, hc⟩ := h
    exact ⟨c, hw.trans hb, hs, hl, fun i v hv => let ⟨x, h1, h2⟩ := hc i v hv; ⟨x, h1, h2.mono hx _ _⟩⟩
  | map es clock =>
    obtain ⟨es', hb, he⟩ := h
    exact ⟨es', hw.trans hb, entRel_mono hx he⟩
  | iter m since seen stepped =>
    obtain ⟨h0, r, hb, hr⟩ := h
    exact ⟨h0, r, hw.trans hb, hr.mono hx⟩
  | dead => trivial

/-- an object that is there has a block -/
theorem ObjRel.lt {γ : Gam} {ob : AObj} {p : Place} {w : World} (h : ObjRel γ ob p w) (hd : ob ≠ .dead) : p.block < w.heap.size := by
  cases ob with
  | cells l elem => obtain ⟨c, hb, _⟩ := h; exact (Array.getElem?_eq_some_iff.1 hb).1
  | map es clock => obtain ⟨es', hb, _⟩ := h; exact (Array.getElem?_eq_some_iff.1 hb).1
  | iter m since seen stepped => obtain ⟨_, r, hb, _⟩ := h; exact (Array.getElem?_eq_some_iff.1 hb).1
  | dead => exact absurd rfl hd

/- what is placed is not dead -/
/-- What must not turn: blocks of a world of old. -/
structure Frz where
  w : World
  fz : Nat → Prop

structure Frame (F : Frz) (γ : Gam) (w : World) : Prop where
  os : w.os = F.w.os
  tape : w.tape = F.w.tape
  output : w.output = F.w.output
  size : F.w.heap.size ≤ w.heap.size
  old : ∀ b, F.fz b → b < F.w.heap.size
  block : ∀ b, F.fz b → w.heap[b]? = F.w.heap[b]?
  own : ∀ o p, γ o = some (some p) → ¬ F.fz p.block

/-- At most one block has turned. -/
structure Turn (b : Nat) (w w' : World) : Prop where
  os : w'.os = w.os
  tape : w'.tape = w.tape
  output : w'.output = w.output
  size : w.heap.size ≤ w'.heap.size
  block : ∀ c, c ≠ b → w'.heap[c]? = w.heap[c]?

theorem turn_set (w : World) (b : Nat) (o : Obj) : Turn b w { w with heap := w.heap.setIfInBounds b o } :=
  ⟨rfl, rfl, rfl, by simp, fun c h => Array.getElem?_setIfInBounds_ne (Ne.symm h)⟩

theorem Frame.turn {F : Frz} {γ : Gam} {w w' : World} (h : Frame F γ w) {b : Nat} (hb : ¬ F.fz b) (ht : Turn b w w') : Frame F γ w' :=
  ⟨ht.os.trans h.os, ht.tape.trans h.tape, ht.output.trans h.output, Nat.le_trans h.size ht.size, h.old, fun c hc => (ht.block c fun e => hb (e ▸ hc)).trans (h.block c hc), h.own⟩
theorem Frame.less {F : Frz} {γ γ' : Gam} {w : World} (h : Frame F γ w) (hg : ∀ o p, γ' o = some (some p) → ∃ o' p', γ o' = some (some p') ∧ p'.block = p.block) : Frame F γ' w :=
  ⟨h.os, h.tape, h.output, h.size, h.old, h.block, fun o p hp => let ⟨o', p', h1, h2⟩ := hg o p hp; h2 ▸ h.own o' p' h1⟩
theorem Frame.push {F : Frz} {γ γ' : Gam} {w : World} (h : Frame F γ w) (ob : Obj) (hg : ∀ o p, γ' o = some (some p) → γ o = some (some p) ∨ p.block = w.heap.size) : Frame F γ' { w with heap := w.heap.push ob } :=
  ⟨h.os, h.tape, h.output, by have := h.size; simp; omega, h.old, fun c hc => by
    have h1 := h.old c hc
    have h2 := h.size
    show (w.heap.push ob)[c]? = _
    rw [Array.getElem?_push, if_neg (by omega)]
    exact h.block c hc, fun o p hp => by
    rcases hg o p hp with h1 | h1
    · exact h.own o p h1
    · intro hc
      have h2 := h.old _ hc
      have h3 := h.size
      omega⟩

structure RelL (F : Frz) (γ : Gam) (σ : AS) (w : World) : Prop extends Rel γ σ w where
  live : ∀ o p, γ o = some (some p) → σ.heap.get o ≠ some .dead
  frame : Frame F γ w

theorem Rel.heap {γ : Gam} {σ : AS} {w w' : World} (h : Rel γ σ w) (hw : w'.heap = w.heap) : Rel γ σ w' :=
  ⟨h.dom, fun o p hp => let ⟨ob, h1, h2⟩ := h.obj o p hp; ⟨ob, h1, h2.mono (.refl γ) (by rw [hw])⟩, h.gone, h.inj, h.lim⟩
theorem RelL.heap {F : Frz} {γ : Gam} {σ : AS} {w w' : World} (h : RelL F γ σ w) (hw : w'.heap = w.heap) (h1 : w'.os = w.os := by rfl) (h2 : w'.tape = w.tape := by rfl) (h3 : w'.output = w.output := by rfl) : RelL F γ σ w' :=
  ⟨h.toRel.heap hw, h.live, ⟨h1.trans h.frame.os, h2.trans h.frame.tape, h3.trans h.frame.output, by rw [hw]; exact h.frame.size, h.frame.old, fun b hb => by rw [hw]; exact h.frame.block b hb, h.frame.own⟩⟩

theorem RelL.lt {F : Frz} {γ : Gam} {σ : AS} {w : World} (h : RelL F γ σ w) {o : Nat} {p : Place} (hp : γ o = some (some p)) : p.block < w.heap.size := by
  obtain ⟨ob, h1, h2⟩ := h.obj o p hp
  exact h2.lt fun e => h.live o p hp (by rw [h1, e])

theorem RelL.next_lt {F : Frz} {γ : Gam} {σ : AS} {w : World} (h : RelL F γ σ w) {o : Nat} (hp : γ o ≠ none) : o < σ.next := by
  rcases Nat.lt_or_ge o σ.next with h' | h'
  · exact h'
  · exact absurd (h.dom o h') hp

/-- One more object in the evaluator's heap, not yet anywhere. -/
theorem RelL.more {F : Frz} {γ : Gam} {σ : AS} {w : World} (h : RelL F γ σ w) (hl : σ.next < lim) (ob : AObj) : RelL F γ { heap := σ.heap.put σ.next ob, next := σ.next + 1 } w := by
  have hne : ∀ o, γ o ≠ none → o ≠ σ.next := fun o ho e => ho (h.dom o (by omega))
  refine ⟨⟨fun o ho => h.dom o (by simp only [] at ho; omega), fun o p hp => ?_, fun o ho => ?_, h.inj, by simp only []; omega⟩, fun o p hp => ?_, h.frame⟩
  · obtain ⟨ob', h1, h2⟩ := h.obj o p hp
    refine ⟨ob', ?_, h2⟩
    simp only []
    rw [T.get_put _ _ _ _ (Nat.le_of_lt hl), if_neg (hne o (by rw [hp]; simp))]
    exact h1
  · simp only []
    rw [T.get_put _ _ _ _ (Nat.le_of_lt hl), if_neg (hne o (by rw [ho]; simp))]
    exact h.gone o ho
  · simp only []
    rw [T.get_put _ _ _ _ (Nat.le_of_lt hl), if_neg (hne o (by rw [hp]; simp))]
    exact h.live o p hp
theorem Step.more {F : Frz} {γ : Gam} {σ : AS} {w : World} (h : RelL F γ σ w) (hl : σ.next < lim) (ob : AObj) : Step γ σ γ { heap := σ.heap.put σ.next ob, next := σ.next + 1 } :=
  ⟨.refl γ, fun _ _ h => h, Nat.le_succ _, fun o ho _ => by simp only []; rw [T.get_put _ _ _ _ (Nat.le_of_lt hl), if_neg (by omega)]⟩

/-- An object that is not yet anywhere is laid into a new block. -/
theorem RelL.place {F : Frz} {γ : Gam} {σ : AS} {w : World} (h : RelL F γ σ w) {id : Nat} {ob : AObj} (hid : id < σ.next) (hg : γ id = none) (hob : σ.heap.get id = some ob) (hd : ob ≠ .dead) (cob : Obj) (base top : Nat)
    (hrel : ObjRel (upd γ id (some ⟨w.heap.size, base, top⟩)) ob ⟨w.heap.size, base, top⟩ { w with heap := w.heap.push cob }) :
    RelL F (upd γ id (some ⟨w.heap.size, base, top⟩)) σ { w with heap := w.heap.push cob } := by
  have hx := ext_upd (some ⟨w.heap.size, base, top⟩) hg
  refine ⟨⟨fun o ho => ?_, fun o p hp => ?_, fun o ho => ?_, fun o o' p p' hp hp' e => ?_, h.lim⟩, fun o p hp => ?_, h.frame.push cob fun o p hp => ?_⟩
  · rw [upd_ne _ _ (by omega)]; exact h.dom o ho
  · by_cases e : o = id
    · subst e
      rw [upd_self] at hp
      cases hp
      exact ⟨ob, hob, hrel⟩
    · rw [upd_ne _ _ e] at hp
      obtain ⟨ob', h1, h2⟩ := h.obj o p hp
      refine ⟨ob', h1, h2.mono hx ?_⟩
      simp only []
      rw [Array.getElem?_push, if_neg (by have := h.lt hp; omega)]
  · by_cases e : o = id
    · subst e; rw [upd_self] at ho; cases ho
    · rw [upd_ne _ _ e] at ho; exact h.gone o ho
  · by_cases e1 : o = id <;> by_cases e2 : o' = id
    · rw [e1, e2]
    · subst e1
      rw [upd_self] at hp; cases hp
      rw [upd_ne _ _ e2] at hp'
      have := h.lt hp'
      simp only [] at e
      omega
    · subst e2
      rw [upd_self] at hp'; cases hp'
      rw [upd_ne _ _ e1] at hp
      have := h.lt hp
      simp only [] at e
      omega
    · rw [upd_ne _ _ e1] at hp
      rw [upd_ne _ _ e2] at hp'
      exact h.inj o o' p p' hp hp' e
  · by_cases e : o = id
    · subst e; rw [hob]; intro hh; exact hd (Option.some.inj hh)
    · rw [upd_ne _ _ e] at hp; exact h.live o p hp
  · by_cases e : o = id
    · subst e; rw [upd_self] at hp; cases hp; exact .inr rfl
    · rw [upd_ne _ _ e] at hp; exact .inl hp

/-- An object gets other contents, where it stands. -/
theorem RelL.set {F : Frz} {γ : Gam} {σ : AS} {w w' : World} (h : RelL F γ σ w) {o : Nat} {p : Place} {ob : AObj} (hp : γ o = some (some p)) (hd : ob ≠ .dead)
    (hrel : ObjRel γ ob p w') (hw : Turn p.block w w') : RelL F γ { σ with heap := σ.heap.put o ob } w' := by
  have ho : o ≤ lim := Nat.le_trans (Nat.le_of_lt (h.next_lt (by rw [hp]; simp))) h.lim
  refine ⟨⟨h.dom, fun q r hq => ?_, fun q hq => ?_, h.inj, h.lim⟩, fun q r hq => ?_, h.frame.turn (h.frame.own o p hp) hw⟩
  · simp only []
    rw [T.get_put _ _ _ _ ho]
    by_cases e : q = o
    · subst e
      rw [hp] at hq; cases hq
      exact ⟨ob, by simp, hrel⟩
    · rw [if_neg e]
      obtain ⟨ob', h1, h2⟩ := h.obj q r hq
      exact ⟨ob', h1, h2.mono (.refl γ) (hw.block _ fun e' => e (h.inj q o r p hq hp e'))⟩
  · simp only []
    rw [T.get_put _ _ _ _ ho, if_neg (fun e => by rw [e, hp] at hq; cases hq)]
    exact h.gone q hq
  · simp only []
    rw [T.get_put _ _ _ _ ho]
    by_cases e : q = o
    · rw [if_pos e]; intro hh; exact hd (Option.some.inj hh)
    · rw [if_neg e]; exact h.live q r hq
theorem Step.set {F : Frz} {γ : Gam} {σ : AS} {w : World} (h : RelL F γ σ w) {o : Nat} {p : Place} (ob : AObj) (hp : γ o = some (some p)) : Step γ σ γ { σ with heap := σ.heap.put o ob } := by
  have ho : o ≤ lim := Nat.le_trans (Nat.le_of_lt (h.next_lt (by rw [hp]; simp))) h.lim
  exact ⟨.refl γ, fun _ _ h => h, Nat.le_refl _, fun q _ hq => by simp only []; rw [T.get_put _ _ _ _ ho, if_neg (fun e => by rw [e, hp] at hq; cases hq)]⟩

/-- An object goes. -/
theorem RelL.kill {F : Frz} {γ : Gam} {σ : AS} {w : World} (h : RelL F γ σ w) {o : Nat} (hp : γ o ≠ none) : RelL F (upd γ o none) { σ with heap := σ.heap.put o .dead } w := by
  have ho' := h.next_lt hp
  have ho : o ≤ lim := Nat.le_trans (Nat.le_of_lt ho') h.lim
  refine ⟨⟨fun q hq => ?_, fun q r hq => ?_, fun q hq => ?_, fun q q' r r' hq hq' e => ?_, h.lim⟩, fun q r hq => ?_, h.frame.less fun q r hq => ⟨q, r, by rwa [upd_ne _ _ (fun e => by rw [e, upd_self] at hq; cases hq)] at hq, rfl⟩⟩
  · rw [upd_ne _ _ (by simp only [] at hq; omega)]; exact h.dom q hq
  · have e : q ≠ o := fun e => by rw [e, upd_self] at hq; cases hq
    rw [upd_ne _ _ e] at hq
    simp only []
    rw [T.get_put _ _ _ _ ho, if_neg e]
    obtain ⟨ob', h1, h2⟩ := h.obj q r hq
    exact ⟨ob', h1, h2.mono (ext_kill o) rfl⟩
  · simp only []
    rw [T.get_put _ _ _ _ ho]
    by_cases e : q = o
    · rw [if_pos e]
    · rw [if_neg e]; rw [upd_ne _ _ e] at hq; exact h.gone q hq
  · have e1 : q ≠ o := fun e => by rw [e, upd_self] at hq; cases hq
    have e2 : q' ≠ o := fun e => by rw [e, upd_self] at hq'; cases hq'
    rw [upd_ne _ _ e1] at hq
    rw [upd_ne _ _ e2] at hq'
    exact h.inj q q' r r' hq hq' e
  · have e : q ≠ o := fun e => by rw [e, upd_self] at hq; cases hq
    rw [upd_ne _ _ e] at hq
    simp only []
    rw [T.get_put _ _ _ _ ho, if_neg e]
    exact h.live q r hq
theorem Step.kill {F : Frz} {γ : Gam} {σ : AS} {w : World} (h : RelL F γ σ w) {o : Nat} (hp : γ o ≠ none) : Step γ σ (upd γ o none) { σ with heap := σ.heap.put o .dead } := by
  have ho : o ≤ lim := Nat.le_trans (Nat.le_of_lt (h.next_lt hp)) h.lim
  refine ⟨ext_kill o, fun q _ hq => ?_, Nat.le_refl _, fun q _ hq => ?_⟩
  · rw [upd_ne _ _ (fun e => hp (by rw [← e]; exact hq))]; exact hq
  · simp only []; rw [T.get_put _ _ _ _ ho, if_neg (fun e => hp (by rw [← e]; exact hq))]

theorem Step.place {γ : Gam} {σ : AS} {id : Nat} (q : Option Place) (hg : γ id = none) : ∀ σ0, σ0.next ≤ id → Step γ σ0 γ σ → Step γ σ0 (upd γ id q) σ := fun σ0 hid h =>
  ⟨ext_upd q hg, fun o ho hgo => by rw [upd_ne _ _ (by omega)]; exact h.new o ho hgo, h.le, h.same⟩

/-- new cells -/
theorem obj_cells {γ γ' : Gam} (hx : Ext γ γ') {l : List AV} {cs : Array Value} {elem : TypeId} (h : Concs γ l cs.toList) {b : Nat} {w : World} (hw : w.heap[b]? = some (.cells cs elem (0, 0))) : ObjRel γ' (.cells l elem) ⟨b, 0, cs.size⟩ w :=
  ⟨cs, hw, rfl, by have := concs_length h; simp at this; simp; omega, fun i v hv => by
    obtain ⟨x, h1, h2⟩ := concs_get h i v hv
    exact ⟨x, by simpa using h1, h2.mono hx _ _⟩⟩

section
variable {P : Program} {E : Env} (hE : EnvOk P E) {γ : Gam} {σ : AS} {w : World} {t : Tmps} {ρ : Operand → Value}
include hE

theorem new_ok (hρ : OpRel γ t ρ) (o : Oper) {ob : AObj} {k : NewK} (h : evOp E t σ o.op = some (.new ob k)) :
    ob ≠ .dead ∧ ∃ cob x top, (execOp ρ o).run P w = .ok (.value x) { w with heap := w.heap.push cob } ∧ ∀ γ' id w', Ext γ γ' → γ' id = some (some ⟨w.heap.size, 0, top⟩) → w'.heap[w.heap.size]? = some cob →
      ObjRel γ' ob ⟨w.heap.size, 0, top⟩ w' ∧ Conc γ' (k.val id) x := by
  obtain ⟨dst, op, type, pos, after, guard⟩ := o
  simp only [] at h
  have hptr : ∀ (γ' : Gam) (id top : Nat), γ' id = some (some ⟨w.heap.size, 0, top⟩) → Conc γ' (NewK.val id .ptr) (.pointer (some ⟨w.heap.size, 0, none⟩)) := by
    intro γ' id top hg
    simp only [NewK.val, Conc]
    exact ⟨_, rfl, by unfold atP; rw [hg]⟩
  have hsl : ∀ (γ' : Gam) (id top l c : Nat), l ≤ c → γ' id = some (some ⟨w.heap.size, 0, top⟩) → Conc γ' (NewK.val id (.slice l c)) (.slice (some ⟨w.heap.size, 0, none⟩) l c) := by
    intro γ' id top l c hlc hg
    simp only [NewK.val, Conc]
    exact ⟨_, _, rfl, .inr (by unfold atP; rw [hg]), hlc, rfl⟩
  cases op <;> simp only [evOp] at h
  case alloc elem =>
    split at h
    · rename_i r hr
      obtain ⟨z, hz, e⟩ := Option.map_eq_some_iff.1 h
      cases e
      refine ⟨by simp, .cells z.cells elem, .pointer (some ⟨w.heap.size, 0, none⟩), z.cells.size, ?_, fun γ' id w' hx hg hw => ⟨obj_cells hx (conc_cells (conc_ofValue γ z)) hw, hptr γ' id _ hg⟩⟩
      simp only [execOp]
      exact run_v (by simp only [Instr.alloc, Sem.run_bind, run_zero hE hr w hz, Result.andThen_ok, newVar, newRow, run_newObj, Sem.run_pure])
    · cases h
  case box elem x =>
    obtain ⟨v, hv, e⟩ := Option.map_eq_some_iff.1 h
    cases e
    refine ⟨by simp, .cells (ρ x).cells elem, .pointer (some ⟨w.heap.size, 0, none⟩), (ρ x).cells.size, ?_, fun γ' id w' hx hg hw => ⟨obj_cells hx (conc_cells (hρ _ _ hv)) hw, hptr γ' id _ hg⟩⟩
    simp only [execOp]
    exact run_v (by simp only [Instr.box, Sem.run_bind, Result.andThen_ok, newVar, newRow, run_newObj, Sem.run_pure])
  case makeMap ty r =>
    cases r with
    | some _ => cases h
    | none =>
      cases h
      refine ⟨by simp, .map #[] 0, .map (some w.heap.size), 0, ?_, fun γ' id w' hx hg hw => ⟨⟨#[], hw, rfl⟩, ?_⟩⟩
      · simp only [execOp, Option.map_none]
        exact run_v (by simp only [Instr.makeMap, Sem.run_bind, Result.andThen_ok, run_newObj, Sem.run_pure])
      · simp only [NewK.val, Conc]
        exact ⟨_, rfl, by unfold mapP; rw [hg]⟩
  case buildSlice ty len parts =>
    split at h
    · rename_i r vs hr hvs
      split at h
      · rename_i elem hd
        split at h
        · rename_i er her
          split at h
          · rename_i z hz
            split at h
            · rename_i hb
              obtain ⟨l, hl, e⟩ := Option.map_eq_some_iff.1 h
              cases e
              rw [Bool.and_eq_true] at hb
              have hb1 := Nat.le_of_ble_eq_true hb.1
              have hb2 := Nat.eq_of_beq_eq_true hb.2
              have hp := concs_allSome hρ hvs
              have hlen : vs.length = parts.toList.length := by have := concs_length hp; simpa using this.symm
              have hparts : ∀ (i : Nat) (p : Nat × AV), ((parts.toList.map (·.1)).zip vs)[i]? = some p → ∃ x, ((parts.map fun (i, x) => (i, ρ x)).toList)[i]? = some (p.1, x) ∧ Conc γ p.2 x := by
                intro i p hi
                rw [List.getElem?_zip_eq_some] at hi
                obtain ⟨h1, h2⟩ := hi
                obtain ⟨x, hx, hc⟩ := concs_get hp i p.2 h2
                refine ⟨x, ?_, hc⟩
                simp only [List.getElem?_map, Option.map_eq_some_iff, Array.toList_map] at h1 hx ⊢
                obtain ⟨q, hq, e⟩ := h1
                obtain ⟨q', ⟨q'', hq'', e''⟩, e'⟩ := hx
                rw [hq] at hq''
                cases hq''
                exact ⟨q, hq, by rw [← e, ← e', ← e'']⟩
              have hl2 : (parts.map fun (i, x) => (i, ρ x)).toList.length = ((parts.toList.map (·.1)).zip vs).length := by simp [hlen]
              have hzc : Concs γ (ofValue z).cells z.cells.toList := conc_cells (conc_ofValue γ z)
              have hzs : z.cells.size = er.info.size := by have := concs_length hzc; rw [hb2] at this; simpa using this
              have hrep := rep_ok z.cells er.info.size hzs len
              obtain ⟨out', ho, hc⟩ := fill_ok (fun i => some (i * er.info.size, er.info.size)) _ _ _ ((Array.range (len * er.info.size)).map (z.cells[· % z.cells.size]!)) _ hl2 hparts (by rw [hrep]; exact concs_rep hzc len) hl
              refine ⟨by simp, .cells out' elem, .slice (some ⟨w.heap.size, 0, none⟩) len len, out'.size, ?_, fun γ' id w' hx hg hw => ⟨obj_cells hx hc hw, hsl γ' id _ _ _ (Nat.le_refl _) hg⟩⟩
              simp only [execOp]
              refine run_v ?_
              unfold Instr.buildSlice
              have hsm : ¬ len * er.info.size > 2 ^ 24 := by omega
              simp only [Sem.run_bind, run_und hE hr w, hd, Result.andThen_ok, run_size hE her w, if_neg hsm]
              by_cases h0 : len * er.info.size = 0
              · have : (Array.range (len * er.info.size)).map (fun x => (#[] : Array Value)[x % (#[] : Array Value).size]!) = (Array.range (len * er.info.size)).map (z.cells[· % z.cells.size]!) := by
                  rw [h0]; simp
                rw [if_pos h0]
                simp only [Sem.run_pure, Result.andThen_ok, this, ho, Sem.run_bind, newRow, run_newObj]
              · rw [if_neg h0]
                simp only [Sem.run_bind, run_zero hE her w hz, Sem.run_pure, Result.andThen_ok, ho, newRow, run_newObj]
            · cases h
          · cases h
        · cases h
      · cases h
    · cases h
  case makeSlice ty l c =>
    split at h
    · rename_i r lv cv hr hlv hcv
      split at h
      · rename_i elem ln cn hd hln hcn
        split at h
        · rename_i er her
          split at h
          · rename_i z hz
            split at h
            · rename_i hb
              cases h
              simp only [Bool.and_eq_true] at hb
              obtain ⟨⟨⟨hb1, hb2⟩, hb3⟩, hb4⟩ := hb
              have hb1 := Nat.le_of_ble_eq_true hb1
              have hb2 := Nat.le_of_ble_eq_true hb2
              have hb3 := Nat.le_of_ble_eq_true hb3
              have hb4 := Nat.eq_of_beq_eq_true hb4
              obtain ⟨k1, hk1⟩ := natOf_some hln (hρ _ _ hlv)
              obtain ⟨k2, hk2⟩ := natOf_some hcn (hρ _ _ hcv)
              have hzc : Concs γ (ofValue z).cells z.cells.toList := conc_cells (conc_ofValue γ z)
              have hzs : z.cells.size = er.info.size := by have := concs_length hzc; rw [hb4] at this; simpa using this
              have hrep := rep_ok z.cells er.info.size hzs cn
              refine ⟨by simp, .cells ((Array.range (cn * er.info.size)).map (z.cells[· % z.cells.size]!)) elem, .slice (some ⟨w.heap.size, 0, none⟩) ln cn, _, ?_,
                fun γ' id w' hx hg hw => ⟨obj_cells hx (by rw [hrep]; exact concs_rep hzc cn) hw, hsl γ' id _ _ _ hb1 hg⟩⟩
              simp only [execOp]
              refine run_v ?_
              rw [hk1, hk2]
              unfold Instr.makeSlice
              have w1 : IntKind.i64.wrap (ln : Int) = ln := by
                unfold IntKind.wrap IntKind.bits IntKind.signed; simp; omega
              have w2 : IntKind.i64.wrap (cn : Int) = cn := by
                unfold IntKind.wrap IntKind.bits IntKind.signed; simp; omega
              have hbytes : ¬ ((er.info.bytes : Int) * (cn : Int) > 2 ^ 48) := by
                have := Nat.mul_le_mul hb3 hb2
                have h2 : ((er.info.bytes * cn : Nat) : Int) ≤ ((65536 * 65536 : Nat) : Int) := Int.ofNat_le.2 this
                rw [Int.natCast_mul] at h2
                omega
              have hif : ((decide ((cn : Int) < 0) || decide ((er.info.bytes : Int) * (cn : Int) > 2 ^ 48)) || decide ((ln : Int) < 0) || decide ((ln : Int) > (cn : Int))) = false := by
                simp only [Bool.or_eq_false_iff, decide_eq_false_iff_not]
                exact ⟨⟨⟨by omega, hbytes⟩, by omega⟩, by omega⟩
              simp only [Sem.run_bind, run_und hE hr w, hd, Result.andThen_ok, asInt, asIntOf, Sem.run_pure, run_info hE her w, w1, w2, hif, Bool.false_eq_true, if_false, run_askRoom, Int.toNat_natCast, run_size hE her w]
              by_cases h0 : cn * er.info.size = 0
              · have : (Array.range (cn * er.info.size)).map (fun x => (#[] : Array Value)[x % (#[] : Array Value).size]!) = (Array.range (cn * er.info.size)).map (z.cells[· % z.cells.size]!) := by
                  rw [h0]; simp
                rw [if_pos h0]
                simp only [Sem.run_pure, Result.andThen_ok, this, Sem.run_bind, newRow, run_newObj]
              · rw [if_neg h0]
                simp only [Sem.run_bind, run_zero hE her w hz, Sem.run_pure, Result.andThen_ok, newRow, run_newObj]
            · cases h
          · cases h
        · cases h
      · cases h
    · cases h
  case call c =>
    split at h
    · cases h
    · split at h
      · split at h
        · unfold fnCall at h
          split at h <;> cases h
        · cases h
      · unfold builtinA at h
        (repeat' split at h) <;> first | cases h | (obtain ⟨_, _, e⟩ := Option.map_eq_some_iff.1 h; cases e)
      · (repeat' split at h) <;> cases h
  case convert src dst x =>
    split at h
    · unfold convA at h
      (repeat' split at h) <;> first | cases h | (obtain ⟨_, _, e⟩ := Option.map_eq_some_iff.1 h; cases e)
    · cases h
  all_goals
    (repeat' split at h) <;> first | cases h | (obtain ⟨_, _, e⟩ := Option.map_eq_some_iff.1 h; cases e)

end

open Go.RowKit (Below) in
theorem RelL.grown {F : Frz} {γ : Gam} {σ : AS} {w w' : World} (h : RelL F γ σ w) (hb : Below w.heap.size w w') : RelL F γ σ w' := by
  refine ⟨⟨h.dom, fun o p hp => ?_, h.gone, h.inj, h.lim⟩, h.live, ⟨hb.os.trans h.frame.os, hb.tape.trans h.frame.tape, hb.output.trans h.frame.output, Nat.le_trans h.frame.size hb.size, h.frame.old, fun b hf => ?_, h.frame.own⟩⟩
  · obtain ⟨ob, h1, h2⟩ := h.obj o p hp
    exact ⟨ob, h1, h2.mono (.refl γ) (hb.block _ (h.lt hp))⟩
  · exact (hb.block b (Nat.lt_of_lt_of_le (h.frame.old b hf) h.frame.size)).trans (h.frame.block b hf)


/-! ### A call in an empty heap -/
def frz (w : World) (γ : Gam) : Frz := ⟨w, fun b => b < w.heap.size ∧ ∀ o p, γ o = some (some p) → p.block ≠ b⟩

theorem frame_start (w : World) (γ : Gam) : Frame (frz w γ) γ w :=
  ⟨rfl, rfl, rfl, Nat.le_refl _, fun _ h => h.1, fun _ _ => rfl, fun o p hp h => h.2 o p hp rfl⟩

def emp : Gam := fun _ => none
def σe : AS := ⟨.e, 0⟩
theorem rel_start (w : World) : RelL (frz w emp) emp σe w :=
  ⟨⟨fun _ _ => rfl, fun o p h => by simp [emp] at h, fun o h => by simp [emp] at h, fun o o' p p' h => by simp [emp] at h, Nat.zero_le _⟩, fun o p h => by simp [emp] at h, frame_start w emp⟩

open Go.RowKit (Below) in
theorem below_of {w w' : World} {γ : Gam} (h : Frame (frz w emp) γ w') : Below w.heap.size w w' :=
  ⟨h.os, h.tape, h.output, h.size, fun b hb => h.block b ⟨hb, fun o p hp => by simp [emp] at hp⟩⟩

end Go.Proofs.YtmgpfkoomlgcoaaGreat.Ev
