/-
  What turns the heap: appends, copies, steps over a map. Every operation that turns the heap, and every call. Steps of a region: one operation, and regions in their own order. One operation, and a region in its own order. Regions whose order is drawn: masks, rows, what operations do not depend on. Regions whose order is drawn: what the evaluator has taken ahead, and the model's own order. Regions w
-/
import Derived.Test.YtldjgpnbkbmgoaaGreatDoorPSEvA
set_option linter.unusedSimpArgs false
set_option linter.unusedVariables false
set_option maxRecDepth 100000
set_option maxHeartbeats 8000000
namespace Go.Proofs.YtldjgpnbkbmgoaaGreatDoor.Ev
theorem RelL.move {F : Frz} {γ : Gam} {σ : AS} {w w' : World} (h : RelL F γ σ w) {o : Nat} {p : Place} {ob : AObj} (base : Nat) (hp : γ o = some (some p)) (hl : σ.next < lim) (hd : ob ≠ .dead)
    (hrel : ObjRel (upd (upd γ o none) σ.next (some ⟨p.block, base, p.top⟩)) ob ⟨p.block, base, p.top⟩ w') (hw : Turn p.block w w') :
    RelL F (upd (upd γ o none) σ.next (some ⟨p.block, base, p.top⟩)) { heap := (σ.heap.put o .dead).put σ.next ob, next := σ.next + 1 } w' := by
  have hol := h.next_lt (o := o) (by rw [hp]; simp)
  have ho : o ≤ lim := Nat.le_trans (Nat.le_of_lt hol) h.lim
  have hg0 : (upd γ o none) σ.next = none := by rw [upd_ne _ _ (by omega)]; exact h.dom _ (Nat.le_refl _)
  have hx : Ext γ (upd (upd γ o none) σ.next (some ⟨p.block, base, p.top⟩)) := (ext_kill o).trans (ext_upd _ hg0)
  have hget : ∀ q, q ≠ o → q ≠ σ.next → ((σ.heap.put o .dead).put σ.next ob).get q = σ.heap.get q := by
    intro q h1 h2
    rw [T.get_put _ _ _ _ (Nat.le_of_lt hl), if_neg h2, T.get_put _ _ _ _ ho, if_neg h1]
  have hgam : ∀ q, q ≠ o → q ≠ σ.next → (upd (upd γ o none) σ.next (some ⟨p.block, base, p.top⟩)) q = γ q := by
    intro q h1 h2
    rw [upd_ne _ _ h2, upd_ne _ _ h1]
  have hdead : (upd (upd γ o none) σ.next (some ⟨p.block, base, p.top⟩)) o = some none := by
    rw [upd_ne _ _ (by omega), upd_self]
  refine ⟨⟨fun q hq => ?_, fun q r hq => ?_, fun q hq => ?_, fun q q' r r' hq hq' e => ?_, by simp only []; omega⟩, fun q r hq => ?_, (h.frame.turn (h.frame.own o p hp) hw).less fun q r hq => ?_⟩
  · simp only [] at hq
    rw [hgam q (by omega) (by omega)]; exact h.dom q (by omega)
  · by_cases e1 : q = o
    · subst e1; rw [hdead] at hq; cases hq
    · by_cases e2 : q = σ.next
      · subst e2
        rw [upd_self] at hq; cases hq
        refine ⟨ob, ?_, hrel⟩
        simp only []
        rw [T.get_put _ _ _ _ (Nat.le_of_lt hl)]; simp
      · rw [hgam q e1 e2] at hq
        obtain ⟨ob', h1, h2⟩ := h.obj q r hq
        refine ⟨ob', by simp only []; rw [hget q e1 e2]; exact h1, h2.mono hx (hw.block _ fun e => e1 (h.inj q o r p hq hp e))⟩
  · by_cases e1 : q = o
    · subst e1
      simp only []
      rw [T.get_put _ _ _ _ (Nat.le_of_lt hl), if_neg (by omega), T.get_put _ _ _ _ ho]; simp
    · by_cases e2 : q = σ.next
      · subst e2; rw [upd_self] at hq; cases hq
      · rw [hgam q e1 e2] at hq
        simp only []
        rw [hget q e1 e2]; exact h.gone q hq
  · have n1 : q ≠ o := fun e => by rw [e, hdead] at hq; cases hq
    have n2 : q' ≠ o := fun e => by rw [e, hdead] at hq'; cases hq'
    by_cases e1 : q = σ.next <;> by_cases e2 : q' = σ.next
    · rw [e1, e2]
    · rw [e1, upd_self] at hq; cases hq
      rw [hgam q' n2 e2] at hq'
      exact absurd (h.inj q' o r' p hq' hp e.symm) n2
    · rw [e2, upd_self] at hq'; cases hq'
      rw [hgam q n1 e1] at hq
      exact absurd (h.inj q o r p hq hp e) n1
    · rw [hgam q n1 e1] at hq
      rw [hgam q' n2 e2] at hq'
      exact h.inj q q' r r' hq hq' e
  · have n1 : q ≠ o := fun e => by rw [e, hdead] at hq; cases hq
    by_cases e2 : q = σ.next
    · subst e2
      simp only []
      rw [T.get_put _ _ _ _ (Nat.le_of_lt hl)]
      simp only [if_true]
      intro hh; exact hd (Option.some.inj hh)
    · rw [hgam q n1 e2] at hq
      simp only []
      rw [hget q n1 e2]; exact h.live q r hq
  · have n1 : q ≠ o := fun e => by rw [e, hdead] at hq; cases hq
    by_cases e2 : q = σ.next
    · subst e2; rw [upd_self] at hq; cases hq; exact ⟨o, p, hp, rfl⟩
    · rw [hgam q n1 e2] at hq; exact ⟨q, r, hq, rfl⟩
theorem Step.grow {F : Frz} {γ : Gam} {σ : AS} {w : World} (h : RelL F γ σ w) {o : Nat} (ob : AObj) (q : Option Place) (hp : γ o ≠ none) (hl : σ.next < lim) :
    Step γ σ (upd (upd γ o none) σ.next q) { heap := (σ.heap.put o .dead).put σ.next ob, next := σ.next + 1 } := by
  have hol := h.next_lt hp
  have ho : o ≤ lim := Nat.le_trans (Nat.le_of_lt hol) h.lim
  have hg0 : (upd γ o none) σ.next = none := by rw [upd_ne _ _ (by omega)]; exact h.dom _ (Nat.le_refl _)
  refine ⟨(ext_kill o).trans (ext_upd q hg0), fun a ha hg => ?_, Nat.le_succ _, fun a ha hg => ?_⟩
  · rw [upd_ne _ _ (by omega), upd_ne _ _ (fun e => hp (by rw [← e]; exact hg))]; exact hg
  · simp only []
    rw [T.get_put _ _ _ _ (Nat.le_of_lt hl), if_neg (by omega), T.get_put _ _ _ _ ho, if_neg (fun e => hp (by rw [← e]; exact hg))]
theorem growBy_le (need : Nat) : ∀ (r c : Nat), c ≤ 2 * need + 1000 → Builtin.growBy need r c ≤ 2 * need + 1000
  | 0, c, h => by simpa [Builtin.growBy] using h
  | r + 1, c, h => by
    unfold Builtin.growBy
    split
    · exact h
    · exact growBy_le need r _ (by omega)
theorem nextcap_le {need old : Nat} (h : old < need) : Builtin.nextslicecap need old ≤ 2 * need + 1000 := by
  unfold Builtin.nextslicecap
  split
  · omega
  · split
    · omega
    · exact growBy_le need 4 old (by omega)
theorem zeroCells_size (z : Array Value) (n : Nat) : (Builtin.zeroCells z n).size = n * z.size := by simp [Builtin.zeroCells]
section
variable {F : Frz} {P : Program} {E : Env} (hE : EnvOk P E) {γ : Gam} {σ : AS} {w : World} {t : Tmps} {ρ : Operand → Value}
include hE
omit hE in
theorem lenOf_ok {x : AV} {n : Nat} (h : lenOfA x = some n) {y : Value} (hx : Conc γ x y) : (Builtin.lenOf y).run P w = .ok n w := by
  unfold lenOfA at h
  split at h
  · simp only [Conc] at hx; obtain ⟨a, c, rfl, _⟩ := hx
    simp only [Option.some.injEq] at h; subst h; rfl
  · rw [conc_lit_iff] at hx; subst hx
    simp only [Option.some.injEq] at h; subst h; rfl
  · rw [conc_lit_iff] at hx; subst hx
    simp only [Option.some.injEq] at h; subst h; rfl
  · cases h
theorem run_app_in {ts : Array TypeId} {tt ty xt : TypeId} {ys : Array Value} {r xr er : TyRow} {elem : TypeId} {a : Addr} {len c n : Nat} {x : Value} {new : Array Value} {w' : World}
    (h0 : ts[0]? = some ty) (h1 : ts[1]? = some xt) (h2 : ys[0]? = some (.slice (some a) len c)) (h3 : ys[1]? = some x) (hr : E.ty ty = some r) (hd : r.und = .slice elem) (hxr : E.ty xt = some xr) (hxd : ∀ k, xr.und ≠ .int k)
    (her : E.ty elem = some er) (hn : (Builtin.lenOf x).run P w = .ok n w) (hf : (Builtin.firstCells er.info.size n x).run P w = .ok new w) (hle : len + n ≤ c)
    (hst : (storeCells (a.add (len * er.info.size)) new.toList).run P w = .ok () w') :
    (Builtin.append_ ts tt ys).run P w = .ok (.slice (some a) (len + n) c) w' := by
  have hz : (match xr.und with | .int _ => true | _ => false) = false := by
    split
    · exact absurd ‹_› (hxd _)
    · rfl
  unfold Builtin.append_
  simp only [h0, h1, h2, h3, Sem.run_bind, run_und hE hr w, hd, Result.andThen_ok, run_size hE her w, run_und hE hxr w, Sem.run_pure, hz, Bool.false_eq_true, if_false, hn, if_pos hle, Bool.not_false, if_true, hf, hst]
theorem run_app_new {ts : Array TypeId} {tt ty xt : TypeId} {ys : Array Value} {r xr er : TyRow} {elem : TypeId} {base : Option Addr} {len c n : Nat} {x z : Value} {old new : Array Value}
    (h0 : ts[0]? = some ty) (h1 : ts[1]? = some xt) (h2 : ys[0]? = some (.slice base len c)) (h3 : ys[1]? = some x) (hr : E.ty ty = some r) (hd : r.und = .slice elem) (hxr : E.ty xt = some xr) (hxd : ∀ k, xr.und ≠ .int k)
    (her : E.ty elem = some er) (hz : er.info.zero = some z) (hn : (Builtin.lenOf x).run P w = .ok n w) (hf : ∀ w', w'.heap = w.heap → (Builtin.firstCells er.info.size n x).run P w' = .ok new w') (hlt : ¬ len + n ≤ c)
    (hso : ∀ w', w'.heap = w.heap → (Builtin.firstCells er.info.size len (.slice base len c)).run P w' = .ok old w') (hneed : len + n ≤ 65536) (hbytes : er.info.bytes ≤ 65536) :
    ∃ cap, len + n ≤ cap ∧ (Builtin.append_ ts tt ys).run P w = .ok (.slice (some ⟨w.heap.size, 0, none⟩) (len + n) cap) { w with heap := w.heap.push (.cells (old ++ new ++ Builtin.zeroCells z.cells (cap - (len + n))) elem), drawn := w.drawn + 1 } := by
  have hzz : (match xr.und with | .int _ => true | _ => false) = false := by
    split
    · exact absurd ‹_› (hxd _)
    · rfl
  have hmax : ¬ (((len + n : Nat) : Int) > IntKind.i64.max ∧ ((false = true) ∨ er.info.bytes = 0)) := by
    intro hh
    have := hh.1
    unfold IntKind.max IntKind.signed IntKind.bits at this
    simp at this
    omega
  have hcap : ¬ (Builtin.nextslicecap (len + n) c * er.info.bytes > 2 ^ 48) := by
    have := nextcap_le (by omega : c < len + n)
    have h2 := Nat.mul_le_mul (Nat.le_trans this (by omega : 2 * (len + n) + 1000 ≤ 200000)) hbytes
    omega
  let w1 : World := { w with drawn := w.drawn + 1 }
  refine ⟨(Question.appendCap (len + n) c elem).cut (w.tape w.drawn (.appendCap (len + n) c elem)), ?_, ?_⟩
  · simp only [Question.cut]; omega
  · unfold Builtin.append_
    have hw1 : w1.heap = w.heap := rfl
    have e1 := hf w1 hw1
    have e2 := hso w1 hw1
    have hq : (Question.appendCap (len + n) c elem).forced = false := rfl
    simp only [h0, h1, h2, h3, Sem.run_bind, run_und hE hr w, hd, Result.andThen_ok, run_size hE her w, run_und hE hxr w, Sem.run_pure, hzz, Bool.false_eq_true, if_false, hn, if_neg hlt, Bool.not_false, if_true, run_info hE her w]
    have hmax' : ¬ (((len + n : Nat) : Int) > IntKind.i64.max ∧ (False ∨ er.info.bytes = 0)) := by simpa using hmax
    rw [if_neg hmax']
    simp only [Sem.run_bind, run_info hE her w, Result.andThen_ok, if_neg hcap, run_choose, hq, Bool.false_eq_true, if_false]
    have hw1' : ({ heap := w.heap, tape := w.tape, drawn := w.drawn + 1, os := w.os, output := w.output } : World) = w1 := rfl
    simp only [hw1', run_info hE her w1, Result.andThen_ok, run_askRoom, e1, e2, run_zero hE her w1 hz, newRow, Sem.run_bind, run_newObj, Sem.run_pure]
    rfl
theorem append_ok (hR : RelL F γ σ w) {ts : Array TypeId} {tt ty xt : TypeId} {ys : Array Value} {xr : TyRow} {s x v : AV} {σ' : AS} {s' x' : Value} (h : appendA E σ ty s x = some (v, σ')) (hs : Conc γ s s') (hx : Conc γ x x')
    (h0 : ts[0]? = some ty) (h1 : ts[1]? = some xt) (h2 : ys[0]? = some s') (h3 : ys[1]? = some x') (hxr : E.ty xt = some xr) (hxd : ∀ k, xr.und ≠ .int k) :
    ∃ γ' w' u, (Builtin.append_ ts tt ys).run P w = .ok u w' ∧ Conc γ' v u ∧ RelL F γ' σ' w' ∧ Step γ σ γ' σ' := by
  unfold appendA at h
  cases hr : E.ty ty with
  | none => rw [hr] at h; cases h
  | some r =>
    rw [hr] at h
    simp only [] at h
    split at h
    · rename_i elem hd
      split at h
      · -- something is appended
        rename_i er n len her hln hls
        split at h
        · rename_i new old z hfn hfo hz
          split at h
          · cases h
          · rename_i hb
            simp only [Bool.and_eq_true] at hb
            obtain ⟨⟨⟨⟨⟨⟨⟨hb1, hb2⟩, hb3⟩, hb4⟩, hb5⟩, hb6⟩, hb7⟩, hb8⟩ := hb
            have hb8 : fixT elem = false := by simpa using hb8
            have hb1 := Nat.le_of_ble_eq_true hb1
            have hb2 := Nat.le_of_ble_eq_true hb2
            have hb3 := blt_t hb3
            have hb4 := Nat.eq_of_beq_eq_true hb4
            have hb5 := Nat.eq_of_beq_eq_true hb5
            have hb6 := Nat.eq_of_beq_eq_true hb6
            have hzc : Concs γ (ofValue z).cells z.cells.toList := conc_cells (conc_ofValue γ z)
            have hzs : z.cells.size = er.info.size := by have := concs_length hzc; rw [hb4] at this; simpa using this
            have hnx := lenOf_ok (P := P) (w := w) hln hx
            obtain ⟨cn, hcn, hcnr⟩ := first_all (P := P) hR.toRel hfn hx
            obtain ⟨co, hco, hcor⟩ := first_all (P := P) hR.toRel hfo hs
            have hcnl := concs_length hcnr
            have hcol := concs_length hcor
            simp only [Array.length_toList] at hcnl hcol
            have fresh : ∀ (base : Option Addr) (c : Nat), s' = .slice base len c → ¬ len + (n + 1) ≤ c → ∃ cap, len + (n + 1) ≤ cap ∧
                (Builtin.append_ ts tt ys).run P w = .ok (.slice (some ⟨w.heap.size, 0, none⟩) (len + (n + 1)) cap) { w with heap := w.heap.push (.cells (co ++ cn ++ Builtin.zeroCells z.cells (cap - (len + (n + 1)))) elem), drawn := w.drawn + 1 } := by
              intro base c e hlt
              subst e
              exact run_app_new hE h0 h1 h2 h3 hr hd hxr hxd her hz hnx hcn hlt hco hb1 hb2
            have hwd : RelL F γ σ { w with drawn := w.drawn + 1 } := hR.heap rfl
            have hsz : ∀ cap, len + (n + 1) ≤ cap → (co ++ cn ++ Builtin.zeroCells z.cells (cap - (len + (n + 1)))).size = cap * er.info.size := by
              intro cap hcap
              simp only [Array.size_append, zeroCells_size, hzs, hcnl, hcol, hb5, hb6]
              rw [← Nat.add_mul, ← Nat.add_mul]
              congr 1
              omega
            have hobj : ∀ (γ' : Gam) (cap base : Nat) (w' : World) (b top : Nat), Ext γ γ' → len + (n + 1) ≤ cap → w'.heap[b]? = some (.cells (co ++ cn ++ Builtin.zeroCells z.cells (cap - (len + (n + 1)))) elem) →
                ObjRel γ' (.cells (old ++ new) elem) ⟨b, 0, cap * er.info.size⟩ w' := by
              intro γ' cap base w' b top hx' hcap hw'
              refine ⟨_, hw', ⟨hsz cap hcap, fun h => absurd h (by rw [hb8]; simp)⟩, ?_, fun i u hu => ?_⟩
              · simp only [List.length_append, hb5, hb6]
                rw [← Nat.add_mul, Nat.zero_add]
                exact Nat.mul_le_mul_right _ hcap
              · obtain ⟨y, hy, hcy⟩ := concs_get (concs_append hcor hcnr) i u hu
                refine ⟨y, ?_, hcy.mono hx' _ _⟩
                have hi : i < (co.toList ++ cn.toList).length := (List.getElem?_eq_some_iff.1 hy).1
                have hi' : i < (co ++ cn).size := by simpa using hi
                rw [Nat.zero_add, Array.getElem?_append_left hi']
                have : (co ++ cn)[i]? = (co.toList ++ cn.toList)[i]? := by rw [← Array.getElem?_toList, Array.toList_append]
                rw [this]; exact hy
            have hval : ∀ (γ' : Gam) (cap : Nat), len + (n + 1) ≤ cap → γ' σ.next = some (some ⟨w.heap.size, 0, cap * er.info.size⟩) → Conc γ' (.slice σ.next 0 (len + (n + 1)) (.grown er.info.size)) (.slice (some ⟨w.heap.size, 0, none⟩) (len + (n + 1)) cap) := by
              intro γ' cap hcap hg
              simp only [Conc]
              exact ⟨_, _, rfl, .inr (by unfold atP; rw [hg]), hcap, by unfold topP; rw [hg]; simp⟩
            have plain : (base : Option Addr) → (c : Nat) → s' = .slice base len c → ¬ len + (n + 1) ≤ c → v = .slice σ.next 0 (len + (n + 1)) (.grown er.info.size) → σ' = { heap := σ.heap.put σ.next (.cells (old ++ new) elem), next := σ.next + 1 } →
                ∃ γ' w' u, (Builtin.append_ ts tt ys).run P w = .ok u w' ∧ Conc γ' v u ∧ RelL F γ' σ' w' ∧ Step γ σ γ' σ' := by
              intro base c e hlt ev es
              obtain ⟨cap, hcap, hrun⟩ := fresh base c e hlt
              subst ev es
              have hm := hwd.more hb3 (.cells (old ++ new) elem)
              have hg0 : γ σ.next = none := hR.dom _ (Nat.le_refl _)
              have hget : (σ.heap.put σ.next (AObj.cells (old ++ new) elem)).get σ.next = some (.cells (old ++ new) elem) := by rw [T.get_put _ _ _ _ (Nat.le_of_lt hb3)]; simp
              refine ⟨_, _, _, hrun, hval _ cap hcap (upd_self γ σ.next _), hm.place (id := σ.next) (base := 0) (top := cap * er.info.size) (by simp) hg0 hget (by simp) _ ?_, Step.place _ hg0 σ (Nat.le_refl _) (Step.more hR hb3 _)⟩
              exact hobj _ cap 0 _ _ 0 (ext_upd _ hg0) hcap (by simp)
            split at h
            · -- nil
              simp only [Option.some.injEq, Prod.mk.injEq] at h
              rw [conc_lit_iff] at hs
              have hlen : ∃ m, s' = .slice none m 0 ∧ m = len := by
                refine ⟨_, hs, ?_⟩
                simpa [lenOfA] using hls
              obtain ⟨m, e, rfl⟩ := hlen
              exact plain none 0 e (by omega) h.1.symm h.2.symm
            · rename_i o off m cap
              simp only [lenOfA, Option.some.injEq] at hls
              subst hls
              have hs0 := hs
              simp only [Conc] at hs
              obtain ⟨a, c, rfl, ha, hlc, hcc⟩ := hs
              split at h
              · -- grown
                rename_i s0
                split at h
                · rename_i hbb
                  rw [Bool.and_eq_true] at hbb
                  have hss := Nat.eq_of_beq_eq_true hbb.1
                  subst hss
                  have hcell : ∃ l, σ.heap.get o = some (.cells l elem) := by
                    have := hbb.2
                    unfold isCells at this
                    split at this
                    · rename_i e0 _
                      have := Nat.eq_of_beq_eq_true this
                      subst this
                      exact ⟨_, by assumption⟩
                    · cases this
                  obtain ⟨l0, hl0⟩ := hcell
                  simp only [Option.some.injEq, Prod.mk.injEq] at h
                  obtain ⟨rfl, rfl⟩ := h
                  simp only [] at hcc
                  have hno : γ o ≠ none := fun e => by unfold topP at hcc; rw [e] at hcc; exact hcc
                  obtain ⟨p, hp, hob⟩ := hR.find hl0 (by simp) hno
                  have htop : p.base + (off + c * er.info.size) ≤ p.top := by unfold topP at hcc; rw [hp] at hcc; exact hcc
                  by_cases hroom : m + (n + 1) ≤ c
                  · -- in place
                    have ha : atP γ o off a := ha.resolve_left (by omega)
                    obtain rfl := ha.at hp
                    obtain ⟨cb, hbk, ⟨hbs, hbf⟩, hbl, hbc⟩ := hob
                    have hone : ∀ y ∈ cn.toList, y.oneCell' = true := by
                      intro y hy
                      obtain ⟨i, hi, e⟩ := List.mem_iff_getElem.1 hy
                      have hvi : i < new.length := by simpa [hcnl] using hi
                      obtain ⟨x, hx, hcx⟩ := concs_get hcnr i new[i] (by simp [hvi])
                      rw [List.getElem?_eq_getElem hi, e] at hx
                      cases hx
                      exact conc_one hcx (List.all_eq_true.1 hb7 _ (List.getElem_mem hvi))
                    have hfit : p.base + off + m * er.info.size + cn.toList.length ≤ cb.size := by
                      rw [Array.length_toList, hcnl, hb6, hbs]
                      have := Nat.mul_le_mul_right er.info.size hroom
                      rw [Nat.add_mul] at this
                      omega
                    have hst := run_storeCells_at (P := P) p.block (p.base + off + m * er.info.size) elem cn.toList 0 cb w hbk (by omega) hone
                    rw [Nat.add_zero] at hst
                    have hadd : (⟨p.block, p.base + off, none⟩ : Addr).add (m * er.info.size) = ⟨p.block, p.base + off + m * er.info.size, none⟩ := addr_add _ _ _
                    have hrun := run_app_in hE (tt := tt) h0 h1 h2 h3 hr hd hxr hxd her hnx (hcn w rfl) hroom (by rw [hadd]; exact hst)
                    have hto : (cb.toList.take (p.base + off + m * er.info.size) ++ cn.toList ++ cb.toList.drop (p.base + off + m * er.info.size + cn.toList.length)) = setFrom cb.toList (p.base + off + m * er.info.size) cn.toList := rfl
                    rw [hto] at hrun
                    have hcbl : cb.toList.length = cb.size := by simp
                    have hold : co.toList = (cb.toList.drop (p.base + off)).take (m * er.info.size) := by
                      have := hco w rfl
                      have hl := run_loadCells_list (P := P) w ⟨p.block, p.base + off, none⟩ ((cb.toList.drop (p.base + off)).take (m * er.info.size)) (by
                        intro j u hu
                        rw [addr_add]
                        rw [List.getElem?_take] at hu
                        split at hu
                        · rw [List.getElem?_drop] at hu
                          simp only [World.cell?, hbk, Option.isSome_none, Bool.false_eq_true, if_false]
                          simpa using hu
                        · simp at hu)
                      have hll : ((cb.toList.drop (p.base + off)).take (m * er.info.size)).length = m * er.info.size := by
                        rw [List.length_take, List.length_drop, hcbl]
                        rw [Array.length_toList] at hfit
                        omega
                      rw [hll] at hl
                      simp only [Builtin.firstCells] at this
                      rw [hl] at this
                      simp only [Result.ok.injEq, and_true] at this
                      rw [← this]
                    refine ⟨_, _, _, hrun, ?_, RelL.move (base := p.base + off) hR hp hb3 (by simp) ?_ (turn_row w p.block _), Step.grow hR _ _ hno hb3⟩
                    · simp only [Conc]
                      refine ⟨_, _, rfl, .inr ?_, hroom, ?_⟩
                      · unfold atP; rw [upd_self]; simp
                      · unfold topP; rw [upd_self]; simp only []; omega
                    · have hx' : Ext γ (upd (upd γ o none) σ.next (some ⟨p.block, p.base + off, p.top⟩)) := (Step.grow hR (.cells (old ++ new) elem) _ hno hb3).ext
                      refine ⟨_, setRow_heap w p.block cb _ elem _ hbk, ?_, ?_, fun i u hu => ?_⟩
                      · simp only [List.size_toArray]
                        rw [setFrom_length _ _ _ (by rw [hcbl]; exact hfit), hcbl, hbs]
                        exact ⟨rfl, fun h => absurd h (by rw [hb8]; simp)⟩
                      · simp only [List.length_append, hb5, hb6]
                        have := Nat.mul_le_mul_right er.info.size hroom
                        rw [Nat.add_mul] at this
                        omega
                      · obtain ⟨y, hy, hcy⟩ := concs_get (concs_append hcor hcnr) i u hu
                        refine ⟨y, ?_, hcy.mono hx' _ _⟩
                        simp only [List.getElem?_toArray]
                        rw [setFrom_get _ _ _ _ (by rw [hcbl]; exact hfit)]
                        have hcl : co.toList.length = m * er.info.size := by rw [Array.length_toList, hcol, hb5]
                        by_cases hi : i < m * er.info.size
                        · rw [if_neg (by omega)]
                          rw [List.getElem?_append_left (by rw [hcl]; exact hi), hold, List.getElem?_take, if_pos hi, List.getElem?_drop] at hy
                          exact hy
                        · rw [List.getElem?_append_right (by rw [hcl]; omega), hcl] at hy
                          have hil := (List.getElem?_eq_some_iff.1 hy).1
                          rw [if_pos (by omega)]
                          rw [show p.base + off + i - (p.base + off + m * er.info.size) = i - m * er.info.size by omega]
                          exact hy
                  · obtain ⟨cap, hcap, hrun⟩ := fresh _ c rfl hroom
                    have hk := hwd.kill (o := o) hno
                    have hm := hk.more hb3 (.cells (old ++ new) elem)
                    have hol := hR.next_lt hno
                    have hg0 : (upd γ o none) σ.next = none := by rw [upd_ne _ _ (by omega)]; exact hR.dom _ (Nat.le_refl _)
                    have hget : ((σ.heap.put o .dead).put σ.next (AObj.cells (old ++ new) elem)).get σ.next = some (.cells (old ++ new) elem) := by rw [T.get_put _ _ _ _ (Nat.le_of_lt hb3)]; simp
                    have hst := Step.grow hR (.cells (old ++ new) elem) (some ⟨w.heap.size, 0, cap * er.info.size⟩) hno hb3
                    refine ⟨_, _, _, hrun, hval _ cap hcap (upd_self _ σ.next _), hm.place (id := σ.next) (base := 0) (top := cap * er.info.size) (by simp) hg0 hget (by simp) _ ?_, hst⟩
                    exact hobj _ cap 0 _ _ 0 hst.ext hcap (by simp)
                · cases h
              · -- a known capacity
                rename_i c0
                simp only [] at hcc
                subst hcc
                split at h
                · rename_i hble
                  simp only [Option.some.injEq, Prod.mk.injEq] at h
                  exact plain (some a) c rfl (fun hle => by rw [Nat.ble_eq_true_of_le hle] at hble; cases hble) h.1.symm h.2.symm
                · rename_i hble
                  have hroom := Nat.le_of_ble_eq_true hble
                  split at h
                  · rename_i l0 e0 hl0
                    split at h
                    · rename_i hfit
                      have hfit := Nat.le_of_ble_eq_true hfit
                      simp only [Option.some.injEq, Prod.mk.injEq] at h
                      obtain ⟨rfl, rfl⟩ := h
                      have ha : atP γ o off a := ha.resolve_left (by omega)
                      have ha2 : atP γ o (off + m * er.info.size) (a.add (m * er.info.size)) := by
                        unfold atP at ha ⊢
                        cases hg : γ o with
                        | none => rw [hg] at ha; exact ha.elim
                        | some q =>
                          rw [hg] at ha
                          cases q with
                          | none => trivial
                          | some p => simp only [] at ha ⊢; rw [ha, addr_add, Nat.add_assoc]
                      obtain ⟨w', hst, h5, h6⟩ := RelL.store (P := P) hR hl0 ha2 hfit hcnr hb7
                      have hrun := run_app_in hE (tt := tt) h0 h1 h2 h3 hr hd hxr hxd her hnx (hcn w rfl) hroom hst
                      refine ⟨γ, w', _, hrun, ?_, h5, h6⟩
                      simp only [Conc]
                      exact ⟨_, _, rfl, .inr ha, hroom, rfl⟩
                    · cases h
                  · cases h
            · cases h
        · cases h
      · -- nothing is appended
        rename_i er len her hln hls
        have hnx := lenOf_ok (P := P) (w := w) hln hx
        have hf0 : ∃ new : Array Value, (Builtin.firstCells er.info.size 0 x').run P w = .ok new w ∧ new.toList = [] := by
          unfold lenOfA at hln
          split at hln
          · simp only [Conc] at hx; obtain ⟨a, c, rfl, _⟩ := hx
            refine ⟨#[], ?_, rfl⟩
            simp only [Builtin.firstCells, Nat.zero_mul]
            simpa using run_loadCells_list (P := P) w a [] (by simp)
          · rw [conc_lit_iff] at hx; subst hx; exact ⟨#[], rfl, rfl⟩
          · rename_i sb
            rw [conc_lit_iff] at hx; subst hx
            refine ⟨_, rfl, ?_⟩
            have : sb.extract 0 0 = .empty := by simp
            rw [this]
            simp
          · cases hln
        obtain ⟨new, hf, hnew⟩ := hf0
        have hz : (match xr.und with | .int _ => true | _ => false) = false := by
          split
          · exact absurd ‹_› (hxd _)
          · rfl
        have main : ∀ (base : Option Addr) (c : Nat), s' = .slice base len c → len ≤ c → (Builtin.append_ ts tt ys).run P w = .ok s' w := by
          intro base c e hle
          subst e
          unfold Builtin.append_
          cases base with
          | none => simp only [h0, h1, h2, h3, Sem.run_bind, run_und hE hr w, hd, Result.andThen_ok, run_size hE her w, run_und hE hxr w, Sem.run_pure, hz, Bool.false_eq_true, if_false, hnx, Nat.add_zero, if_pos hle, Bool.not_false, if_true, hf]
          | some a => simp only [h0, h1, h2, h3, Sem.run_bind, run_und hE hr w, hd, Result.andThen_ok, run_size hE her w, run_und hE hxr w, Sem.run_pure, hz, Bool.false_eq_true, if_false, hnx, Nat.add_zero, if_pos hle, Bool.not_false, if_true, hf, hnew, storeCells]
        split at h
        · simp only [Option.some.injEq, Prod.mk.injEq] at h
          obtain ⟨rfl, rfl⟩ := h
          have hs0 := hs
          simp only [lenOfA, Option.some.injEq] at hls
          simp only [Conc] at hs
          obtain ⟨a, c, e, _, hlc, _⟩ := hs
          rw [hls] at e hlc
          exact ⟨γ, w, s', main _ c e hlc, hs0, hR, .refl γ σ⟩
        · rename_i l c
          split at h
          · rename_i hble
            simp only [Option.some.injEq, Prod.mk.injEq] at h
            obtain ⟨rfl, rfl⟩ := h
            simp only [lenOfA, Option.some.injEq] at hls
            have hs0 := hs
            rw [conc_lit_iff] at hs
            have hble := Nat.le_of_ble_eq_true hble
            rw [hls] at hs hble
            exact ⟨γ, w, s', main none c hs hble, hs0, hR, .refl γ σ⟩
          · cases h
        · cases h
      · cases h
    · cases h
theorem copy_ok (hR : RelL F γ σ w) {ts : Array TypeId} {tt ty : TypeId} {ys : Array Value} {d x v : AV} {σ' : AS} {d' x' : Value} (h : copyA E σ ty d x = some (v, σ')) (hd' : Conc γ d d') (hx : Conc γ x x')
    (h0 : ts[0]? = some ty) (h2 : ys[0]? = some d') (h3 : ys[1]? = some x') :
    ∃ w' u, (Builtin.copy_ ts tt ys).run P w = .ok u w' ∧ Conc γ v u ∧ RelL F γ σ' w' ∧ Step γ σ γ σ' := by
  unfold copyA at h
  cases hr : E.ty ty with
  | none => rw [hr] at h; cases h
  | some r =>
    rw [hr] at h
    simp only [] at h
    split at h
    · rename_i elem hd
      split at h
      · rename_i er n o off len cap her hln
        have hnx := lenOf_ok (P := P) (w := w) hln hx
        have hdd := hd'
        simp only [Conc] at hd'
        obtain ⟨a, c, rfl, ha, hlc, _⟩ := hd'
        split at h
        · rename_i hmin
          simp only [Option.some.injEq, Prod.mk.injEq] at h
          obtain ⟨rfl, rfl⟩ := h
          have hf0 : ∃ new : Array Value, (Builtin.firstCells er.info.size 0 x').run P w = .ok new w ∧ new.toList = [] := by
            unfold lenOfA at hln
            split at hln
            · simp only [Conc] at hx; obtain ⟨a, c, rfl, _⟩ := hx
              refine ⟨#[], ?_, rfl⟩
              simp only [Builtin.firstCells, Nat.zero_mul]
              simpa using run_loadCells_list (P := P) w a [] (by simp)
            · rw [conc_lit_iff] at hx; subst hx; exact ⟨#[], rfl, rfl⟩
            · rename_i sb
              rw [conc_lit_iff] at hx; subst hx
              refine ⟨_, rfl, ?_⟩
              have : sb.extract 0 0 = .empty := by simp
              rw [this]
              simp
            · cases hln
          obtain ⟨new, hf, hnew⟩ := hf0
          refine ⟨w, goInt 0, ?_, conc_lit γ _, hR, .refl γ σ⟩
          unfold Builtin.copy_
          simp only [h0, h2, h3, Sem.run_bind, run_und hE hr w, hd, Result.andThen_ok, hnx, run_size hE her w, hmin, hf, hnew, storeCells, Sem.run_pure]
          rfl
        · rename_i k hmin
          split at h
          · rename_i new l e hfn hg
            split at h
            · rename_i hb
              rw [Bool.and_eq_true] at hb
              have hb1 := Nat.le_of_ble_eq_true hb.1
              simp only [Option.some.injEq, Prod.mk.injEq] at h
              obtain ⟨rfl, rfl⟩ := h
              have hlen : k + 1 ≤ len := by have := Nat.min_le_right n len; have h9 : n.min len = min n len := rfl; omega
              have ha : atP γ o off a := ha.resolve_left (by omega)
              obtain ⟨cn, hcn, hcnr⟩ := first_ok (P := P) hR.toRel hfn hx
              obtain ⟨w', hst, h5, h6⟩ := RelL.store (P := P) hR hg ha hb1 hcnr hb.2
              refine ⟨w', _, ?_, conc_lit γ _, h5, h6⟩
              unfold Builtin.copy_
              simp only [h0, h2, h3, Sem.run_bind, run_und hE hr w, hd, Result.andThen_ok, hnx, run_size hE her w, hmin, hcn, hst, Sem.run_pure]
            · cases h
          · cases h
      · cases h
    · cases h
end
end Go.Proofs.YtldjgpnbkbmgoaaGreatDoor.Ev

namespace Go.Proofs.YtldjgpnbkbmgoaaGreatDoor.Ev
section
variable {F : Frz} {P : Program} {E : Env} (hE : EnvOk P E) {γ : Gam} {σ : AS} {w : World} {t : Tmps} {ρ : Operand → Value}
include hE
omit hE in
theorem next_ok (hR : RelL F γ σ w) {it v : AV} {σ' : AS} (h : iterA σ it = some (v, σ')) {y : Value} (hx : Conc γ it y) {ty : TypeId} :
    ∃ w' u, (Instr.next y false ty).run P w = .ok u w' ∧ Conc γ v u ∧ RelL F γ σ' w' ∧ Step γ σ γ σ' := by
  unfold iterA at h
  split at h
  · rename_i r0
    split at h
    · rename_i m since seen last hg
      split at h
      · rename_i es clock hm
        split at h
        · cases h
        · rename_i hcond
          simp only [Conc] at hx
          obtain ⟨a, rfl, ha⟩ := hx
          obtain ⟨p, hp, hb0, rr, hb, hmr⟩ := hR.find hg (by simp) ha.ne
          obtain rfl := ha.at hp
          obtain ⟨q, hq, es', hbm, he⟩ := hR.find hm (by simp) hmr.ne
          obtain rfl := hmr.at hq
          have hg1 : (getObj p.block).run P w = .ok (.mapIter (some q.block) since seen.toArray last) w := by simp [getObj, Sem.run, hb]
          have hg2 : (getObj q.block).run P w = .ok (.map es' clock) w := by simp [getObj, Sem.run, hbm]
          have hlen := entRel_length he
          have hc1 : es'.isEmpty = es.isEmpty := by
            cases es with
            | nil => simp at hlen; simp [hlen]
            | cons e es => cases hes : es'.isEmpty with
              | true => simp at hes; subst hes; simp at hlen
              | false => rfl
          have hc2 : es'.all (·.born ≥ last) = es.all (fun e => Nat.ble last e.2.2) := by
            have := entRel_all (fun b => decide (b ≥ last)) he
            rw [← Array.all_toList, this]
            congr 1
            funext e
            rw [Bool.eq_iff_iff, decide_eq_true_iff]
            exact ⟨fun h => Nat.ble_eq_true_of_le h, fun h => Nat.le_of_ble_eq_true h⟩
          have hcond' : (!seen.toArray.isEmpty && !es'.isEmpty && es'.all (·.born ≥ last)) = false := by
            rw [hc1, hc2]
            simpa using hcond
          have hleft := entRel_filter (fun b => !seen.contains b) he
          have hold := entRel_filter (fun b => Nat.blt b since) hleft
          have hnew := entRel_filter (fun b => Nat.ble since b) hleft
          have e1 : (es'.filter fun e => !seen.toArray.contains e.born).toList = es'.toList.filter fun e => !seen.contains e.born := by simp
          have e2 : ((es'.filter fun e => !seen.toArray.contains e.born).filter (·.born < since)).toList = (es'.toList.filter fun e => !seen.contains e.born).filter fun e => Nat.blt e.born since := by
            rw [Array.toList_filter, e1]
            congr 1
            funext e
            rw [Bool.eq_iff_iff, decide_eq_true_iff]
            exact ⟨fun h => Nat.ble_eq_true_of_le h, fun h => Nat.le_of_ble_eq_true h⟩
          have e3 : ((es'.filter fun e => !seen.toArray.contains e.born).filter (·.born ≥ since)).toList = (es'.toList.filter fun e => !seen.contains e.born).filter fun e => Nat.ble since e.born := by
            rw [Array.toList_filter, e1]
            congr 1
            funext e
            rw [Bool.eq_iff_iff, decide_eq_true_iff]
            exact ⟨fun h => Nat.ble_eq_true_of_le h, fun h => Nat.le_of_ble_eq_true h⟩
          simp only [] at h
          split at h
          · -- over
            rename_i hh1 hh2
            simp only [Option.some.injEq, Prod.mk.injEq] at h
            obtain ⟨rfl, rfl⟩ := h
            rw [hh1] at hold
            rw [hh2] at hnew
            simp only [EntRel] at hold hnew
            rw [hold] at e2
            rw [hnew] at e3
            have e2' : (es'.filter fun e => !seen.toArray.contains e.born).filter (·.born < since) = #[] := by simpa using e2
            have e3' : (es'.filter fun e => !seen.toArray.contains e.born).filter (·.born ≥ since) = #[] := by simpa using e3
            refine ⟨w, .tuple #[.bool false], ?_, ?_, hR, .refl γ σ⟩
            · unfold Instr.next
              rw [hb0]
              simp only [Sem.run_bind, hg1, Result.andThen_ok, hg2, hcond', Bool.false_eq_true, if_false, e2', e3']
              have : ((if (#[] : Array MapEntry).isEmpty = true then #[none] else #[]) ++ Array.map some ((#[] : Array MapEntry) ++ #[]) : Array (Option MapEntry)) = #[none] := by simp
              rw [this]
              simp only [run_choose]
              have hq : (Question.mapNext (#[(none : Option MapEntry)] : Array (Option MapEntry)).size).forced = true := rfl
              simp only [hq, if_true, Result.andThen_ok]
              rfl
            · simp only [Conc]
              exact ⟨_, rfl, by simp only [Concs]; exact ⟨.bool false, [], rfl, conc_lit γ _, rfl⟩⟩
          · -- one entry
            rename_i k u born hh1 hh2
            simp only [Option.some.injEq, Prod.mk.injEq] at h
            obtain ⟨rfl, rfl⟩ := h
            rw [hh1] at hold
            rw [hh2] at hnew
            simp only [EntRel] at hold hnew
            obtain ⟨k', u', rest, hr1, hk, hu, rfl⟩ := hold
            rw [hr1] at e2
            rw [hnew] at e3
            have e2' : (es'.filter fun e => !seen.toArray.contains e.born).filter (·.born < since) = #[⟨k', u', born⟩] := Array.toList_inj.1 e2
            have e3' : (es'.filter fun e => !seen.toArray.contains e.born).filter (·.born ≥ since) = #[] := by simpa using e3
            have hset : (Go.setObj p.block (.mapIter (some q.block) since (seen.toArray.push born) clock)).run P w = .ok () { w with heap := w.heap.setIfInBounds p.block (.mapIter (some q.block) since (seen.toArray.push born) clock) } := by
              simp [Go.setObj, Sem.run, hb]
            have hlt := (Array.getElem?_eq_some_iff.1 hb).1
            refine ⟨_, .tuple #[.bool true, k', u'], ?_, ?_, RelL.set (w' := { w with heap := w.heap.setIfInBounds p.block (.mapIter (some q.block) since (seen.toArray.push born) clock) }) hR hp (by simp) ?_ ?_, Step.set hR _ hp⟩
            · unfold Instr.next
              rw [hb0]
              simp only [Sem.run_bind, hg1, Result.andThen_ok, hg2, hcond', Bool.false_eq_true, if_false, e2', e3']
              have : ((if (#[⟨k', u', born⟩] : Array MapEntry).isEmpty = true then #[none] else #[]) ++ Array.map some (#[⟨k', u', born⟩] ++ #[]) : Array (Option MapEntry)) = #[some ⟨k', u', born⟩] := by simp
              rw [this]
              simp only [run_choose]
              have hq : (Question.mapNext (#[some (⟨k', u', born⟩ : MapEntry)] : Array (Option MapEntry)).size).forced = true := rfl
              simp only [hq, if_true, Result.andThen_ok]
              have : (#[some (⟨k', u', born⟩ : MapEntry)] : Array (Option MapEntry))[0]? = some (some ⟨k', u', born⟩) := rfl
              rw [this]
              simp only [Sem.run_bind, hset, Result.andThen_ok, Sem.run_pure]
            · simp only [Conc]
              exact ⟨_, rfl, by simp only [Concs]; exact ⟨.bool true, [k', u'], rfl, conc_lit γ _, k', [u'], rfl, hk, u', [], rfl, hu, rfl⟩⟩
            · refine ⟨hb0, q.block, ?_, by unfold mapP; rw [hq]⟩
              simp [hlt]
            · exact turn_set w p.block _
          · cases h
      · cases h
    · cases h
  · cases h
theorem act_ok (hR : RelL F γ σ w) (hρ : OpRel γ t ρ) (o : Oper) {v : AV} {σ' : AS} (h : evOp E t σ o.op = some (.act v σ')) :
    ∃ γ' w' n, (execOp ρ o).run P w = .ok n w' ∧ ((∃ x, n = .value x ∧ Conc γ' v x) ∨ (n = .skip ∧ v = undefV)) ∧ RelL F γ' σ' w' ∧ Step γ σ γ' σ' := by
  obtain ⟨dst, op, type, pos, after, guard⟩ := o
  simp only [] at h
  cases op <;> simp only [evOp] at h
  case assign x =>
    obtain ⟨u, hu, e⟩ := Option.map_eq_some_iff.1 h
    cases e
    exact ⟨γ, w, .value (ρ x), rfl, .inl ⟨_, rfl, hρ _ _ hu⟩, hR, .refl γ σ⟩
  case store ty a x =>
    split at h
    · rename_i av xv ha hx
      obtain ⟨u, hu, e⟩ := Option.map_eq_some_iff.1 h
      cases e
      obtain ⟨w', h1, h2, h3⟩ := store_ok hE hR hu (hρ _ _ ha) (hρ _ _ hx)
      refine ⟨γ, w', .skip, ?_, .inr ⟨rfl, rfl⟩, h2, h3⟩
      simp only [execOp, Sem.run_bind, h1, Result.andThen_ok, Sem.run_pure]
    · cases h
  case mapUpdate ty m k x =>
    split at h
    · rename_i mv kv xv hm hk hx
      obtain ⟨u, hu, e⟩ := Option.map_eq_some_iff.1 h
      cases e
      obtain ⟨w', h1, h2, h3⟩ := update_ok hE hR hu (hρ _ _ hm) (hρ _ _ hk) (hρ _ _ hx)
      refine ⟨γ, w', .skip, ?_, .inr ⟨rfl, rfl⟩, h2, h3⟩
      simp only [execOp, Sem.run_bind, h1, Result.andThen_ok, Sem.run_pure]
    · cases h
  case insert ty m k x =>
    split at h
    · rename_i mv kv xv hm hk hx
      obtain ⟨u, hu, e⟩ := Option.map_eq_some_iff.1 h
      cases e
      obtain ⟨w', h1, h2, h3⟩ := update_ok hE hR hu (hρ _ _ hm) (hρ _ _ hk) (hρ _ _ hx)
      refine ⟨γ, w', .skip, ?_, .inr ⟨rfl, rfl⟩, h2, h3⟩
      simp only [execOp, Sem.run_bind, h1, Result.andThen_ok, Sem.run_pure]
    · cases h
  case range ty x =>
    split at h
    · rename_i r o hr hx
      split at h
      · rename_i kt et es clock hd hg
        split at h
        · rename_i hlt
          have hlt := blt_t hlt
          simp only [Option.some.injEq, Out.act.injEq] at h
          obtain ⟨rfl, rfl⟩ := h
          have hc := hρ _ _ hx
          simp only [Conc] at hc
          obtain ⟨b, hb, hmb⟩ := hc
          obtain ⟨p, hp, es', hbm, he⟩ := hR.find hg (by simp) hmb.ne
          obtain rfl := hmb.at hp
          have hg0 : γ σ.next = none := hR.dom _ (Nat.le_refl _)
          have hm := hR.more hlt (.iter o clock [] clock)
          have hget : (σ.heap.put σ.next (AObj.iter o clock [] clock)).get σ.next = some (.iter o clock [] clock) := by rw [T.get_put _ _ _ _ (Nat.le_of_lt hlt)]; simp
          have hx := ext_upd (some ⟨w.heap.size, 0, 0⟩) hg0
          refine ⟨upd γ σ.next (some ⟨w.heap.size, 0, 0⟩), { w with heap := w.heap.push (.mapIter (some p.block) clock #[] clock) }, .value (.pointer (some ⟨w.heap.size, 0, none⟩)), ?_, .inl ⟨_, rfl, ?_⟩, hm.place (id := σ.next) (base := 0) (top := 0) (by simp) hg0 hget (by simp) _ ?_, Step.place _ hg0 σ (Nat.le_refl _) (Step.more hR hlt _)⟩
          · have hg1 : (getObj p.block).run P w = .ok (.map es' clock) w := by simp [getObj, Sem.run, hbm]
            simp only [execOp]
            refine run_v ?_
            rw [hb]
            unfold Instr.range
            simp only [Sem.run_bind, run_und hE hr w, hd, Result.andThen_ok, hg1, Sem.run_pure, run_newObj]
          · simp only [Conc]
            exact ⟨_, rfl, by unfold atP; rw [upd_self]⟩
          · refine ⟨rfl, p.block, by simp, hmb.mono hx⟩
        · cases h
      · cases h
    · cases h
  case next it isString =>
    split at h
    · rename_i iv hi
      obtain ⟨⟨u, σ2⟩, hu, e⟩ := Option.map_eq_some_iff.1 h
      cases e
      obtain ⟨w', z, h1, h2, h3, h4⟩ := next_ok (P := P) (ty := type) hR hu (hρ _ _ hi)
      exact ⟨γ, w', .value z, by simp only [execOp]; exact run_v h1, .inl ⟨_, rfl, h2⟩, h3, h4⟩
    · cases h
  case call c =>
    split at h
    · cases h
    · rename_i args hargs
      have hc := concs_allSome hρ hargs
      split at h
      · split at h
        · unfold fnCall at h
          split at h <;> cases h
        · cases h
      · rename_i b hcal
        simp only [execOp, resolve, hcal, invoke, builtin]
        have get : ∀ (i : Nat) (v : AV), args[i]? = some v → ∃ x, (c.args.map ρ)[i]? = some x ∧ Conc γ v x := by
          intro i v hv
          obtain ⟨x, hx, hcx⟩ := concs_get hc i v hv
          exact ⟨x, by rw [← Array.getElem?_toList, Array.toList_map]; exact hx, hcx⟩
        unfold builtinA at h
        split at h
        · obtain ⟨u, hu, e⟩ := Option.map_eq_some_iff.1 h
          cases e
        · rename_i ty rest s x hts
          split at h
          · rename_i xt hts2
            split at h
            · rename_i xr hxr
              split at h
              · cases h
              · rename_i hxd
                obtain ⟨⟨u, σ2⟩, hu, e⟩ := Option.map_eq_some_iff.1 h
                cases e
                obtain ⟨s', hs1, hs2⟩ := get 0 s rfl
                obtain ⟨x', hx1, hx2⟩ := get 1 x rfl
                obtain ⟨γ', w', z, h1, h2, h3, h4⟩ := append_ok hE hR (tt := type) (ts := c.argTypes) (ys := c.args.map ρ) hu hs2 hx2 (by rw [← Array.getElem?_toList, hts]; rfl) (by rw [← Array.getElem?_toList, hts2]; rfl) hs1 hx1 hxr (fun k => hxd k)
                refine ⟨γ', w', .value z, ?_, .inl ⟨_, rfl, h2⟩, h3, h4⟩
                simp only [Sem.run_bind, Sem.run_pure, Result.andThen_ok, builtin, h1]
            · cases h
          · cases h
        · rename_i ty rest d x hts
          obtain ⟨⟨u, σ2⟩, hu, e⟩ := Option.map_eq_some_iff.1 h
          cases e
          obtain ⟨d', hd1, hd2⟩ := get 0 d rfl
          obtain ⟨x', hx1, hx2⟩ := get 1 x rfl
          obtain ⟨w', z, h1, h2, h3, h4⟩ := copy_ok hE hR (tt := type) (ts := c.argTypes) (ys := c.args.map ρ) hu hd2 hx2 (by rw [← Array.getElem?_toList, hts]; rfl) hd1 hx1
          refine ⟨γ, w', .value z, ?_, .inl ⟨_, rfl, h2⟩, h3, h4⟩
          simp only [Sem.run_bind, Sem.run_pure, Result.andThen_ok, builtin, h1]
        · rename_i ty rest m k hts
          obtain ⟨σ2, hu, e⟩ := Option.map_eq_some_iff.1 h
          cases e
          obtain ⟨m', hm1, hm2⟩ := get 0 m rfl
          obtain ⟨k', hk1, hk2⟩ := get 1 k rfl
          obtain ⟨w', h1, h3, h4⟩ := delete_ok hE hR (tt := type) (ts := c.argTypes) (ys := c.args.map ρ) hu hm2 hk2 (by rw [← Array.getElem?_toList, hts]; rfl) hm1 hk1
          refine ⟨γ, w', .value (.tuple #[]), ?_, .inl ⟨_, rfl, conc_lit γ _⟩, h3, h4⟩
          simp only [Sem.run_bind, Sem.run_pure, Result.andThen_ok, builtin, h1]
        · obtain ⟨u, hu, e⟩ := Option.map_eq_some_iff.1 h
          cases e
        · obtain ⟨u, hu, e⟩ := Option.map_eq_some_iff.1 h
          cases e
        · cases h
      · (repeat' split at h) <;> cases h
  case convert src dst x =>
    split at h
    · unfold convA at h
      (repeat' split at h) <;> first | cases h | (obtain ⟨_, _, e⟩ := Option.map_eq_some_iff.1 h; cases e)
    · cases h
  all_goals
    (repeat' split at h) <;> first | cases h | (obtain ⟨_, _, e⟩ := Option.map_eq_some_iff.1 h; cases e)
end
end Go.Proofs.YtldjgpnbkbmgoaaGreatDoor.Ev
namespace Go.Proofs.YtldjgpnbkbmgoaaGreatDoor.Ev
def T.mask {α : Type} : (Nat → Bool) → T α → T α
  | _, .e => .e
  | p, .n v l r => .n (if p 0 then none else v) (T.mask (fun i => p (2 * i + 1)) l) (T.mask (fun i => p (2 * i + 2)) r)
theorem T.get_mask {α : Type} : ∀ (p : Nat → Bool) (t : T α) (i : Nat), (T.mask p t).get i = if p i then none else t.get i
  | p, .e, i => by simp [T.mask, T.get]
  | p, .n v l r, i => by
    cases i with
    | zero => simp [T.mask, T.get]
    | succ i =>
      simp only [T.mask, T.get]
      cases hb : Nat.beq (i % 2) 0 with
      | true =>
        have := beq_t hb
        simp only []
        rw [T.get_mask]
        rw [show 2 * (i / 2) + 1 = i + 1 by omega]
      | false =>
        have := beq_f hb
        simp only []
        rw [T.get_mask]
        rw [show 2 * (i / 2) + 2 = i + 1 by omega]
theorem argsA_congr {t t' : Tmps} : ∀ {l : List Operand}, (∀ x ∈ l, opnd t x = opnd t' x) → argsA t l = argsA t' l
  | [], _ => rfl
  | x :: l, h => by
    unfold argsA
    simp only [List.map_cons, h x (by simp)]
    have : l.map (opnd t) = l.map (opnd t') := List.map_congr_left fun y hy => h y (by simp [hy])
    rw [this]
theorem optOp_congr {t t' : Tmps} {x : Option Operand} (h : ∀ y ∈ x.toArray, opnd t y = opnd t' y) : optOp t x = optOp t' x := by
  cases x with
  | none => rfl
  | some y => simp only [optOp, h y (by simp)]
theorem evOp_congr {E : Env} {t t' : Tmps} {σ : AS} (op : Op) (h : ∀ x ∈ op.operands, opnd t x = opnd t' x) : evOp E t σ op = evOp E t' σ op := by
  cases op <;> simp only [Op.operands] at h <;> simp only [evOp]
  case build ty parts =>
    rw [argsA_congr (t' := t') fun x hx => h x (by simpa using hx)]
  case buildSlice ty n parts =>
    rw [argsA_congr (t' := t') fun x hx => h x (by simpa using hx)]
  case makeFunc fn first captured =>
    rw [argsA_congr (l := first.toList) (t' := t') fun x hx => h x (by simp at hx; simp [hx]), argsA_congr (l := captured.toList) (t' := t') fun x hx => h x (by simp at hx; simp [hx])]
  case slice ty x lo hi mx =>
    rw [h x (by simp), optOp_congr (x := lo) (t' := t') fun y hy => h y (by simp only [Array.mem_append]; exact .inl (.inl (.inr hy))), optOp_congr (x := hi) (t' := t') fun y hy => h y (by simp only [Array.mem_append]; exact .inl (.inr hy)),
      optOp_congr (x := mx) (t' := t') fun y hy => h y (by simp only [Array.mem_append]; exact .inr hy)]
  case call c =>
    have ha : argsA t c.args.toList = argsA t' c.args.toList := argsA_congr fun x hx => h x (by simp [Call.operands] ; right; simpa using hx)
    rw [ha]
    cases hc : c.callee with
    | value f => simp only [h f (by simp [Call.operands, hc])]
    | invoke r m => simp only [h r (by simp [Call.operands, hc])]
    | builtin b => rfl
  all_goals
    first
      | rfl
      | (rename_i x; simp only [h x (by simp)]; done)
      | (simp at h; simp only [h]; done)
theorem wanted_ok {γ : Gam} {n : Nat} {t : Tmps} {a : Act} {ops : Array Oper} {o : Oper} {b : Bool} (h : wantedA ops.toList t o = some b) (hT : ∀ d v, (o.guard.bind fun g => (ops[g.1]?).bind (·.dst)) = some d → t.get d = some v → ∃ x, a.tmps[d]? = some x ∧ Conc γ v x) :
    Region.wanted o (yielded ops a.tmps) = b := by
  unfold wantedA at h
  unfold Region.wanted
  cases hg : o.guard with
  | none => rw [hg] at h; simp only [Option.some.injEq] at h; exact h
  | some g =>
    obtain ⟨j, want⟩ := g
    rw [hg] at h
    simp only [] at h ⊢
    split at h
    · rename_i p hp
      split at h
      · rename_i d hd
        have hp' : ops[j]? = some p := by simpa using hp
        have hb : (o.guard.bind fun g => (ops[g.1]?).bind (·.dst)) = some d := by rw [hg]; simp [hp', hd]
        split at h
        · rename_i c hc
          simp only [Option.some.injEq] at h
          obtain ⟨x, hx, hcx⟩ := hT d _ hb hc
          rw [conc_lit_iff] at hcx
          subst hcx
          unfold yielded
          simp only [hp', Option.bind_some, hd, hx]
          rw [← h]
          cases c <;> cases want <;> rfl
        · rename_i c hc
          simp only [Option.some.injEq] at h
          obtain ⟨x, hx, hcx⟩ := hT d _ hb hc
          rw [conc_lit_iff] at hcx
          subst hcx
          unfold yielded
          simp only [hp', Option.bind_some, hd, hx]
          rw [← h]
          rfl
        · cases h
      · cases h
    · cases h
theorem wantedA_congr {ops : Array Oper} {t t' : Tmps} {o : Oper} (h : ∀ d, (o.guard.bind fun g => (ops[g.1]?).bind (·.dst)) = some d → t.get d = t'.get d) : wantedA ops.toList t o = wantedA ops.toList t' o := by
  unfold wantedA
  cases hg : o.guard with
  | none => rfl
  | some g =>
    obtain ⟨j, want⟩ := g
    simp only []
    cases hp : ops.toList[j]? with
    | none => rfl
    | some p =>
      simp only []
      cases hd : p.dst with
      | none => rfl
      | some d =>
        have hp' : ops[j]? = some p := by simpa using hp
        simp only []
        rw [h d (by rw [hg]; simp [hp', hd])]
theorem put_ok {γ : Gam} {n : Nat} {t t' : Tmps} {a : Act} {d : Option Nat} {v : AV} {x : Value} (hT : ConcT γ n t a) (h : putA n t d v = some t') (hn : n ≤ lim) (hx : Conc γ v x) : ConcT γ n t' (a.put d x) := by
  unfold putA at h
  cases d with
  | none => simp only [Option.some.injEq] at h; subst h; exact hT
  | some d =>
    simp only [] at h
    split at h
    · rename_i hlt
      have hlt := blt_t hlt
      simp only [Option.some.injEq] at h
      subst h
      refine ⟨by simpa [Act.put] using hT.size, hT.defers, fun i u hu => ?_⟩
      rw [T.get_put _ _ _ _ (by omega)] at hu
      have hsz := hT.size
      by_cases e : i = d
      · subst e
        rw [if_pos rfl] at hu
        simp only [Option.some.injEq] at hu
        subst hu
        exact ⟨x, by simp only [Act.put]; rw [Array.getElem?_setIfInBounds_self_of_lt (by omega)], hx⟩
      · rw [if_neg e] at hu
        obtain ⟨y, hy, hc⟩ := hT.get i u hu
        exact ⟨y, by simp only [Act.put]; rw [Array.getElem?_setIfInBounds_ne (Ne.symm e)]; exact hy, hc⟩
    · cases h
theorem ConcT.mono {γ γ' : Gam} {n : Nat} {t : Tmps} {a : Act} (hx : Ext γ γ') (h : ConcT γ n t a) : ConcT γ' n t a :=
  ⟨h.size, h.defers, fun i v hv => let ⟨x, h1, h2⟩ := h.get i v hv; ⟨x, h1, h2.mono hx _ _⟩⟩
def CbOk (P : Program) (cb : Cb) : Prop :=
  ∀ f args σ v σ', cb f args σ = some (v, σ') → ∀ F γ w (xs : Array Value), RelL F γ σ w → Concs γ args xs.toList →
    (callFunc f xs).run P w = .ok (.enter f xs) w ∧ ∀ R : Ending → World → Prop, (∀ γ' x w', Conc γ' v x → RelL F γ' σ' w' → Step γ σ γ' σ' → R (.returned x) w') → Calls P f xs w R
section
variable {F : Frz} {P : Program} {E : Env} (hE : EnvOk P E) {γ : Gam} {σ : AS} {w : World} {t : Tmps} {ρ : Operand → Value}
include hE
theorem method_ok {ty : TypeId} {v : AV} {y : Value} {r : TyRow} {name : String} {m : Method} {f : FuncId} (hr : E.ty ty = some r) (hm : r.info.methods.find? (·.name == name) = some m) (hp : m.path.isEmpty = true) (hf : m.func = some (f, true))
    {e : TypeId} (hd : r.und = .pointer e) (k : Nat) : (method (k + 1) ty y name).run P w = .ok (f, y) w := by
  have hpl : m.path.toList = [] := by simpa using hp
  unfold method
  simp only [Sem.run_bind, run_info hE hr w, Result.andThen_ok, hm, hpl, follow, Sem.run_pure, hf, receiverAt, run_und hE hr w, hd, Place.get]
theorem call_ok (hρ : OpRel γ t ρ) (o : Oper) {f : Nat} {args : List AV} (h : evOp E t σ o.op = some (.call f args)) :
    ∃ xs : Array Value, Concs γ args xs.toList ∧ (execOp ρ o).run P w = (callFunc f xs).run P w := by
  obtain ⟨dst, op, type, pos, after, guard⟩ := o
  simp only [] at h
  cases op <;> simp only [evOp] at h
  case call c =>
    split at h
    · cases h
    · rename_i as hargs
      have hc := concs_allSome hρ hargs
      split at h
      · rename_i fo hcal
        split at h
        · rename_i fv hfv
          have hcf := hρ _ _ hfv
          unfold fnCall at h
          split at h
          · rename_i g first cap
            simp only [Option.some.injEq, Out.call.injEq] at h
            obtain ⟨rfl, rfl⟩ := h
            rw [conc_lit_iff] at hcf
            refine ⟨first ++ c.args.map ρ ++ cap, ?_, ?_⟩
            · simp only [Array.toList_append, Array.toList_map]
              exact concs_append (concs_append (concs_lits γ _) hc) (concs_lits γ _)
            · simp only [execOp, resolve, hcal, hcf, Deferred.ofValue, Sem.run_bind, Sem.run_pure, Result.andThen_ok, invoke]
          · rename_i g first cap
            simp only [Option.some.injEq, Out.call.injEq] at h
            obtain ⟨rfl, rfl⟩ := h
            simp only [Conc] at hcf
            obtain ⟨a', b', hcf, h1, h2⟩ := hcf
            refine ⟨a' ++ c.args.map ρ ++ b', ?_, ?_⟩
            · simp only [Array.toList_append, Array.toList_map]
              exact concs_append (concs_append h1 hc) h2
            · simp only [execOp, resolve, hcal, hcf, Deferred.ofValue, Sem.run_bind, Sem.run_pure, Result.andThen_ok, invoke]
          · cases h
        · cases h
      · unfold builtinA at h
        (repeat' split at h) <;> first | cases h | (obtain ⟨_, _, e⟩ := Option.map_eq_some_iff.1 h; cases e)
      · rename_i x name hcal
        split at h
        · rename_i ty v hx
          split at h
          · rename_i r hr
            split at h
            · rename_i m e hm hd
              split at h
              · rename_i g hpath hfun
                simp only [Option.some.injEq, Out.call.injEq] at h
                obtain ⟨rfl, rfl⟩ := h
                have hcx := hρ _ _ hx
                simp only [Conc] at hcx
                obtain ⟨y, hy, hcy⟩ := hcx
                refine ⟨#[y] ++ c.args.map ρ, ?_, ?_⟩
                · simp only [Array.toList_append, Array.toList_map]
                  simp only [List.singleton_append, Concs]
                  exact ⟨y, _, rfl, hcy, hc⟩
                · simp only [execOp, resolve, hcal, hy, Sem.run_bind, Sem.run_pure, Result.andThen_ok, invoke]
                  have h0 : (#[Value.iface ty y] ++ c.args.map ρ)[0]? = some (.iface ty y) := by rw [Array.getElem?_append_left (by simp)]; rfl
                  have hex : (#[Value.iface ty y] ++ c.args.map ρ).extract 1 (#[Value.iface ty y] ++ c.args.map ρ).size = c.args.map ρ := by
                    apply Array.ext'
                    simp [List.take_of_length_le]
                  rw [h0]
                  simp only [hex, callMethod, Sem.run_bind, run_program, Result.andThen_ok]
                  have hk : P.types.size + Made.depth = (P.types.size + Made.depth - 1) + 1 := by
                    have : 0 < Made.depth := by unfold Made.depth; omega
                    omega
                  rw [hk, method_ok hE (v := v) hr hm hpath hfun hd]
                  rfl
              · cases h
            · cases h
          · cases h
        · cases h
  case convert src dst x =>
    split at h
    · unfold convA at h
      (repeat' split at h) <;> first | cases h | (obtain ⟨_, _, e⟩ := Option.map_eq_some_iff.1 h; cases e)
    · cases h
  all_goals
    (repeat' split at h) <;> first | cases h | (obtain ⟨_, _, e⟩ := Option.map_eq_some_iff.1 h; cases e)
end
end Go.Proofs.YtldjgpnbkbmgoaaGreatDoor.Ev
namespace Go.Proofs.YtldjgpnbkbmgoaaGreatDoor.Ev
section
variable {F : Frz} {P : Program} {E : Env} (hE : EnvOk P E) {γ : Gam} {σ : AS} {w : World} {t : Tmps}
include hE
theorem stepV_ok {cb : Cb} (hcb : CbOk P cb) {ops : Array Oper} {o : Oper} {i n : Nat} {v : AV} {σ' : AS} {tag : Nat} {a : Act} (h : stepV E cb ops.toList o t σ = some (v, σ', tag)) (hi : ops[i]? = some o)
    (hR : RelL F γ σ w) (hT : ConcT γ n t a) {K : Act → World → Prop} {Q : Exit → Act → World → Prop} (hK : ∀ γ' x w', Conc γ' v x → RelL F γ' σ' w' → Step γ σ γ' σ' → K (a.put o.dst x) w') : wpOp P ops Q i K a w := by
  unfold stepV at h
  unfold wpOp
  simp only [hi]
  cases hw : wantedA ops.toList t o with
  | none => rw [hw] at h; cases h
  | some b =>
    rw [hw] at h
    have hwant := wanted_ok (a := a) (γ := γ) (n := n) hw fun d u _ hu => hT.get d u hu
    have hρ := hT.opnd
    cases b with
    | false =>
      simp only [Option.some.injEq, Prod.mk.injEq] at h
      obtain ⟨rfl, rfl, rfl⟩ := h
      rw [hwant]
      simp only [Bool.false_eq_true, if_false]
      exact hK γ undef w (conc_lit γ _) hR (.refl γ σ)
    | true =>
      rw [hwant]
      simp only [if_true]
      refine .inl ?_
      unfold Oper.wp
      simp only [] at h
      split at h
      · cases h
      · rename_i u hev
        simp only [Option.some.injEq, Prod.mk.injEq] at h
        obtain ⟨rfl, rfl, rfl⟩ := h
        obtain ⟨x, h1, h2⟩ := val_ok hE hR.toRel hρ o hev (.inl rfl)
        rw [h1, Oper.upon_value]
        exact hK γ x w h2 hR (.refl γ σ)
      · rename_i u hev
        simp only [Option.some.injEq, Prod.mk.injEq] at h
        obtain ⟨rfl, rfl, rfl⟩ := h
        obtain ⟨x, h1, h2⟩ := val_ok hE hR.toRel hρ o hev (.inr rfl)
        rw [h1, Oper.upon_value]
        exact hK γ x w h2 hR (.refl γ σ)
      · rename_i ob k hev
        split at h
        · rename_i hlt
          have hlt := blt_t hlt
          simp only [Option.some.injEq, Prod.mk.injEq] at h
          obtain ⟨rfl, rfl, rfl⟩ := h
          obtain ⟨hd, cob, x, top, h1, h2⟩ := new_ok hE (σ := σ) (w := w) hρ o hev
          have hg0 : γ σ.next = none := hR.dom _ (Nat.le_refl _)
          have hm := hR.more hlt ob
          have hget : (σ.heap.put σ.next ob).get σ.next = some ob := by rw [T.get_put _ _ _ _ (Nat.le_of_lt hlt)]; simp
          have hrel := h2 (upd γ σ.next (some ⟨w.heap.size, 0, top⟩)) σ.next { w with heap := w.heap.push cob } (ext_upd _ hg0) (upd_self _ _ _) (by simp)
          rw [h1, Oper.upon_value]
          exact hK _ x _ hrel.2 (hm.place (id := σ.next) (by simp) hg0 hget hd cob 0 top hrel.1) (Step.place _ hg0 σ (Nat.le_refl _) (Step.more hR hlt _))
        · cases h
      · rename_i u σ2 hev
        simp only [Option.some.injEq, Prod.mk.injEq] at h
        obtain ⟨rfl, rfl, rfl⟩ := h
        obtain ⟨γ', w', nx, h1, h2, h3, h4⟩ := act_ok hE hR hρ o hev
        rw [h1]
        rcases h2 with ⟨x, rfl, hx⟩ | ⟨rfl, rfl⟩
        · rw [Oper.upon_value]; exact hK γ' x w' hx h3 h4
        · rw [Oper.upon_skip]; exact hK γ' undef w' (conc_lit γ' _) h3 h4
      · rename_i f args hev
        split at h
        · rename_i hlone
          rw [Bool.and_eq_true] at hlone
          obtain ⟨ys, hys⟩ := Option.isSome_iff_exists.1 hlone.2
          split at h
          · rename_i u σ2 hc
            split at h
            · rename_i y hy
              simp only [Option.some.injEq, Prod.mk.injEq] at h
              obtain ⟨rfl, rfl, rfl⟩ := h
              obtain ⟨xs, hxs, hrun⟩ := call_ok hE (w := w) hρ o hev
              have hxs' : Concs emp args xs.toList := by
                rw [flats_conc args ys _ hys hxs]
                exact concs_flat args ys hys
              obtain ⟨c1, c2⟩ := hcb f args σe _ _ hc (frz w emp) emp w xs (rel_start w) hxs'
              rw [hrun, c1, Oper.upon_enter]
              refine c2 _ fun γ' x w' hx hr _ => ?_
              rw [flat_conc u y x hy hx]
              exact hK γ y w' (conc_flat u y hy) (hR.grown (below_of hr.frame)) (.refl γ σ)
            · cases h
          · cases h
        split at h
        · rename_i u σ2 hc
          simp only [Option.some.injEq, Prod.mk.injEq] at h
          obtain ⟨rfl, rfl, rfl⟩ := h
          obtain ⟨xs, hxs, hrun⟩ := call_ok hE (w := w) hρ o hev
          obtain ⟨c1, c2⟩ := hcb f args σ _ _ hc F γ w xs hR hxs
          rw [hrun, c1, Oper.upon_enter]
          exact c2 _ fun γ' x w' hx hr hs => hK γ' x w' hx hr hs
        · cases h
theorem runA_ok {cb : Cb} (hcb : CbOk P cb) {ops : Array Oper} {n : Nat} (hn : n ≤ lim) {Q : Exit → Act → World → Prop} : ∀ (l : List Oper) (i : Nat) (t t' : Tmps) (σ σ' : AS) (γ : Gam) (w : World) (a : Act),
    runA E cb n ops.toList l t σ = some (t', σ') → ops.toList.drop i = l → RelL F γ σ w → ConcT γ n t a →
    (∀ γ' a' w', RelL F γ' σ' w' → ConcT γ' n t' a' → Step γ σ γ' σ' → Q .normal a' w') → wpOps P ops Q ((List.range (ops.size - i)).map (· + i)) a w
  | [], i, t, t', σ, σ', γ, w, a, h, hd, hR, hT, hQ => by
    simp only [runA, Option.some.injEq, Prod.mk.injEq] at h
    obtain ⟨rfl, rfl⟩ := h
    have : ops.size - i = 0 := by
      have := congrArg List.length hd
      simpa using this
    rw [this]
    exact hQ γ a w hR hT (.refl γ σ)
  | o :: rest, i, t, t', σ, σ', γ, w, a, h, hd, hR, hT, hQ => by
    have hlt : i < ops.size := by
      have := congrArg List.length hd
      simp at this
      omega
    have hi : ops[i]? = some o := by
      have h1 : ops.toList[i]? = some o := by
        have : (ops.toList.drop i)[0]? = some o := by rw [hd]; rfl
        rw [List.getElem?_drop] at this
        simpa using this
      simpa using h1
    have hrest : ops.toList.drop (i + 1) = rest := by
      have := congrArg List.tail hd
      simpa [List.tail_drop] using this
    rw [show ops.size - i = (ops.size - (i + 1)) + 1 by omega, List.range_succ_eq_map, List.map_cons, List.map_map, wpOps_cons, Nat.zero_add]
    have hfun : ((fun x => x + i) ∘ Nat.succ) = (fun x => x + (i + 1)) := by funext x; simp; omega
    rw [hfun]
    simp only [runA] at h
    split at h
    · rename_i v σ1 tag hs
      split at h
      · rename_i t1 hp
        refine stepV_ok hE hcb hs hi hR hT fun γ1 x w1 hx hR1 hS1 => ?_
        exact runA_ok hcb hn rest (i + 1) t1 t' σ1 σ' γ1 w1 _ h hrest hR1 (put_ok (hT.mono hS1.ext) hp hn hx) fun γ' a' w' h1 h2 h3 => hQ γ' a' w' h1 h2 (hS1.trans h3)
      · cases h
    · cases h
end
end Go.Proofs.YtldjgpnbkbmgoaaGreatDoor.Ev
namespace Go.Proofs.YtldjgpnbkbmgoaaGreatDoor.Ev
theorem has_lor (m i j : Nat) : has (Nat.lor m (Nat.shiftLeft 1 i)) j = (has m j || decide (j = i)) := by
  unfold has
  rw [show Nat.lor m (Nat.shiftLeft 1 i) = m ||| (1 <<< i) from rfl, Nat.testBit_or, Nat.testBit_shiftLeft]
  congr 1
  by_cases h : j = i
  · subst h; simp
  · by_cases h' : i ≤ j
    · cases hk : j - i with
      | zero => omega
      | succ k => simp [h, h', Nat.testBit_succ]
    · simp [h, h']
theorem has_zero (j : Nat) : has 0 j = false := by simp [has]
theorem ready_t {done : Nat} {r : Row} : ready done r = true ↔ ∀ j, has r.pm j = true → has done j = true := by
  unfold ready has
  rw [show Nat.land r.pm done = r.pm &&& done from rfl]
  constructor
  · intro h j hj
    have h := Nat.eq_of_beq_eq_true h
    have := congrArg (Nat.testBit · j) h
    simp only [Nat.testBit_and] at this
    rw [hj] at this
    simpa using this
  · intro h
    have : r.pm &&& done = r.pm := Nat.eq_of_testBit_eq fun j => by
      rw [Nat.testBit_and]
      cases hj : Nat.testBit r.pm j with
      | false => rfl
      | true => simp [h j hj]
    rw [this]
    exact Nat.beq_refl _
theorem has_predMask (j : Nat) : ∀ l : List Edge, has (predMask l) j = true ↔ ∃ e ∈ l, Region.binds .any e = true ∧ e.on = j
  | [] => by simp [predMask, has_zero]
  | e :: l => by
    simp only [predMask]
    cases hb : Region.binds .any e with
    | false =>
      simp only []
      rw [has_predMask j l]
      constructor
      · rintro ⟨x, h1, h2⟩; exact ⟨x, List.mem_cons_of_mem _ h1, h2⟩
      · rintro ⟨x, h1, h2, h3⟩
        rcases List.mem_cons.1 h1 with rfl | h1
        · rw [hb] at h2; cases h2
        · exact ⟨x, h1, h2, h3⟩
    | true =>
      simp only []
      rw [show Nat.lor (Nat.shiftLeft 1 e.on) (predMask l) = Nat.lor (predMask l) (Nat.shiftLeft 1 e.on) from Nat.or_comm _ _, has_lor, Bool.or_eq_true, has_predMask j l, decide_eq_true_iff]
      constructor
      · rintro (⟨x, h1, h2⟩ | rfl)
        · exact ⟨x, List.mem_cons_of_mem _ h1, h2⟩
        · exact ⟨e, by simp, hb, rfl⟩
      · rintro ⟨x, h1, h2, h3⟩
        rcases List.mem_cons.1 h1 with rfl | h1
        · exact .inr h3.symm
        · exact .inl ⟨x, h1, h2, h3⟩
theorem has_lt {m i j : Nat} (h : Nat.blt m (Nat.shiftLeft 1 i) = true) (hj : has m j = true) : j < i := by
  have h1 : m < 1 <<< i := blt_t h
  rw [Nat.one_shiftLeft] at h1
  have h2 := Nat.ge_two_pow_of_testBit hj
  exact (Nat.pow_lt_pow_iff_right (a := 2) (by omega)).1 (Nat.lt_of_le_of_lt h2 h1)
theorem memN_t : ∀ {l : List Nat} {n : Nat}, memN l n = true ↔ n ∈ l
  | [], n => by simp [memN]
  | x :: l, n => by
    simp only [memN]
    cases hb : Nat.beq x n with
    | true => simp [Nat.eq_of_beq_eq_true hb]
    | false => simp [memN_t, Ne.symm (Nat.ne_of_beq_eq_false hb)]
theorem memN_f {l : List Nat} {n : Nat} (h : memN l n = false) : n ∉ l := fun hm => by rw [memN_t.2 hm] at h; cases h
def mkRow (ops : Array Oper) (i : Nat) (o : Oper) : Row := ⟨i, o, predMask o.after.toList, early o.op, o.looksAt ops⟩
theorem rowsFrom_mem {ops : Array Oper} : ∀ {l : List Oper} {i : Nat} {r : Row}, r ∈ rowsFrom ops i l ↔ ∃ k o, l[k]? = some o ∧ r = mkRow ops (i + k) o
  | [], i, r => by simp [rowsFrom]
  | o :: l, i, r => by
    simp only [rowsFrom, List.mem_cons]
    rw [rowsFrom_mem]
    constructor
    · rintro (rfl | ⟨k, p, h1, h2⟩)
      · exact ⟨0, o, rfl, rfl⟩
      · exact ⟨k + 1, p, by simpa using h1, by rw [h2, show i + 1 + k = i + (k + 1) by omega]⟩
    · rintro ⟨k, p, h1, h2⟩
      cases k with
      | zero => simp only [List.getElem?_cons_zero, Option.some.injEq] at h1; subst h1; exact .inl h2
      | succ k => exact .inr ⟨k, p, by simpa using h1, by rw [h2, show i + 1 + k = i + (k + 1) by omega]⟩
structure PairOk (a b : Row) : Prop where
  looks : ∀ d, a.o.dst = some d → d ∈ b.looks → has b.pm a.i = true ∨ (has a.pm b.i = true ∧ a.early = false)
  dst : ∀ d, a.o.dst = some d → b.o.dst = some d → a.early = false ∧ b.early = false
theorem pairOk_t {a b : Row} (h : pairOk a b = true) : PairOk a b := by
  unfold pairOk at h
  cases hd : a.o.dst with
  | none => exact ⟨fun d e _ => by simp [hd] at e, fun d e _ => by simp [hd] at e⟩
  | some d =>
    rw [hd] at h
    simp only [Bool.and_eq_true] at h
    obtain ⟨h1, h2⟩ := h
    refine ⟨fun d' e hm => ?_, fun d' e e' => ?_⟩ <;> (have e := Option.some.inj (hd.symm.trans e); subst e)
    · rw [memN_t.2 hm] at h1
      simpa using h1
    · rw [e'] at h2
      simp only [Nat.beq_refl, Bool.and_eq_true, Bool.not_eq_true'] at h2
      exact ⟨h2.1.2, h2.2⟩
structure RowsOk (ops : Array Oper) (rows : List Row) : Prop where
  row : ∀ r ∈ rows, ops[r.i]? = some r.o ∧ r = mkRow ops r.i r.o
  all : ∀ i o, ops[i]? = some o → mkRow ops i o ∈ rows
  lt : ∀ r ∈ rows, ∀ j, has r.pm j = true → j < r.i
  self : ∀ r ∈ rows, r.early = true → ∀ d, r.o.dst = some d → d ∉ r.looks
  pair : ∀ r ∈ rows, ∀ q ∈ rows, r.i ≠ q.i → PairOk r q
theorem RowsOk.eq {ops : Array Oper} {rows : List Row} (h : RowsOk ops rows) {r q : Row} (hr : r ∈ rows) (hq : q ∈ rows) (e : r.i = q.i) : r = q := by
  obtain ⟨h1, h2⟩ := h.row r hr
  obtain ⟨h3, h4⟩ := h.row q hq
  rw [e, h3] at h1
  rw [h2, h4, e, Option.some.inj h1]
theorem indep_ok : ∀ {l : List Row}, indep l = true → (∀ r ∈ l, Nat.blt r.pm (Nat.shiftLeft 1 r.i) = true ∧ selfOk r = true) ∧ ∀ r ∈ l, ∀ q ∈ l, r.i ≠ q.i → pairOk r q = true
  | [], _ => ⟨by simp, by simp⟩
  | x :: l, h => by
    simp only [indep, Bool.and_eq_true, List.all_eq_true] at h
    obtain ⟨⟨⟨h1, h2⟩, h3⟩, h4⟩ := h
    obtain ⟨i1, i2⟩ := indep_ok h4
    refine ⟨fun r hr => ?_, fun r hr q hq hne => ?_⟩
    · rcases List.mem_cons.1 hr with rfl | hr
      · exact ⟨h1, h2⟩
      · exact i1 r hr
    · rcases List.mem_cons.1 hr with er | hr <;> rcases List.mem_cons.1 hq with eq | hq
      · exact absurd (by rw [er, eq]) hne
      · rw [er]; exact (h3 q hq).1
      · rw [eq]; exact (h3 r hr).2
      · exact i2 r hr q hq hne
theorem rows_ok {ops : Array Oper} (h : indep (rowsFrom ops 0 ops.toList) = true) : RowsOk ops (rowsFrom ops 0 ops.toList) := by
  obtain ⟨h1, h2⟩ := indep_ok h
  refine ⟨fun r hr => ?_, fun i o ho => ?_, fun r hr j hj => has_lt (h1 r hr).1 hj, fun r hr he d hd hm => ?_, fun r hr q hq hne => pairOk_t (h2 r hr q hq hne)⟩
  · obtain ⟨k, o, hk, rfl⟩ := rowsFrom_mem.1 hr
    refine ⟨?_, rfl⟩
    simp only [mkRow, Nat.zero_add]
    simpa using hk
  · exact rowsFrom_mem.2 ⟨i, o, by simpa using ho, by rw [Nat.zero_add]⟩
  · have := (h1 r hr).2
    unfold selfOk at this
    rw [he, hd] at this
    simp only [Bool.not_eq_true'] at this
    exact memN_f this hm
theorem evOp_pure {E : Env} {t : Tmps} {σ : AS} {op : Op} {v : AV} (σ' : AS) (h : evOp E t σ op = some (.pure v)) : evOp E t σ' op = some (.pure v) := by
  cases op <;> simp only [evOp] at h ⊢ <;> first | exact h | skip
  case convert src dst x =>
    split at h
    · rename_i y hy
      unfold convA at h ⊢
      (repeat' split at h) <;> first | cases h | skip
      all_goals first | (simp_all; done) | skip
      all_goals (obtain ⟨_, _, e⟩ := Option.map_eq_some_iff.1 h; cases e)
    · cases h
  case call c =>
    split at h
    · cases h
    · rename_i as ha
      split at h
      · exact h
      · rename_i b hb
        unfold builtinA at h ⊢
        (repeat' split at h) <;> first | cases h | (simp_all; done) | (obtain ⟨_, _, e⟩ := Option.map_eq_some_iff.1 h; cases e) | skip
      · exact h
  all_goals
    (repeat' split at h) <;> first | cases h | (obtain ⟨_, _, e⟩ := Option.map_eq_some_iff.1 h; cases e)
theorem evOp_new {E : Env} {t : Tmps} {σ : AS} {op : Op} {ob : AObj} {k : NewK} (σ' : AS) (h : evOp E t σ op = some (.new ob k)) : evOp E t σ' op = some (.new ob k) := by
  cases op <;> simp only [evOp] at h ⊢ <;> first | exact h | skip
  case convert src dst x =>
    split at h
    · rename_i y hy
      unfold convA at h
      (repeat' split at h) <;> first | cases h | (obtain ⟨_, _, e⟩ := Option.map_eq_some_iff.1 h; cases e)
    · cases h
  case call c =>
    split at h
    · cases h
    · rename_i as ha
      split at h
      · unfold fnCall at h
        (repeat' split at h) <;> cases h
      · rename_i b hb
        unfold builtinA at h
        (repeat' split at h) <;> first | cases h | (obtain ⟨_, _, e⟩ := Option.map_eq_some_iff.1 h; cases e)
      · (repeat' split at h) <;> cases h
  all_goals
    (repeat' split at h) <;> first | cases h | (obtain ⟨_, _, e⟩ := Option.map_eq_some_iff.1 h; cases e)
theorem evOp_early {E : Env} {t : Tmps} {σ : AS} {op : Op} {out : Out} (he : early op = true) (h : evOp E t σ op = some out) :
    (∃ v, out = .pure v) ∨ (∃ v, out = .read v) ∨ ∃ ob k, out = .new ob k := by
  cases op <;> simp only [early, Bool.false_eq_true] at he <;> simp only [evOp] at h
  case convert src dst x =>
    split at h
    · rename_i y hy
      unfold convA at h
      (repeat' split at h) <;> first
        | (simp at h; done)
        | (simp only [Option.some.injEq] at h; subst h; first | exact .inl ⟨_, rfl⟩ | exact .inr (.inl ⟨_, rfl⟩) | exact .inr (.inr ⟨_, _, rfl⟩))
        | (obtain ⟨_, _, rfl⟩ := Option.map_eq_some_iff.1 h; exact .inr (.inl ⟨_, rfl⟩))
    · cases h
  case call c =>
    split at h
    · cases h
    · rename_i as ha
      split at he
      all_goals first | cases he | skip
      all_goals (rename_i hb; simp only [hb] at h; unfold builtinA at h; (repeat' split at h) <;> first | cases h | (obtain ⟨_, _, rfl⟩ := Option.map_eq_some_iff.1 h; first | exact .inl ⟨_, rfl⟩ | exact .inr (.inl ⟨_, rfl⟩)) | (simp at *; done))
  all_goals
    (repeat' split at h) <;> first
      | (simp at h; done)
      | (simp only [Option.some.injEq] at h; subst h; first | exact .inl ⟨_, rfl⟩ | exact .inr (.inl ⟨_, rfl⟩) | exact .inr (.inr ⟨_, _, rfl⟩))
      | (obtain ⟨_, _, rfl⟩ := Option.map_eq_some_iff.1 h; first | exact .inl ⟨_, rfl⟩ | exact .inr (.inl ⟨_, rfl⟩) | exact .inr (.inr ⟨_, _, rfl⟩))
      | (simp only [Option.some.injEq] at h; subst h; first | exact .inl ⟨_, rfl⟩ | exact .inr (.inl ⟨_, rfl⟩) | exact .inr (.inr ⟨_, _, rfl⟩))
end Go.Proofs.YtldjgpnbkbmgoaaGreatDoor.Ev

namespace Go.Proofs.YtldjgpnbkbmgoaaGreatDoor.Ev
theorem vsame_eq {a b : Value} (h : vsame a b = true) : a = b := by
  unfold vsame at h
  split at h
  · simp at h; rw [h]
  · simp at h; rw [h.1, h.2]
  · simp only [beq_iff_eq] at h
    congr 1
    exact ByteArray.ext (Array.ext' h)
  · rfl
  · rfl
  · simp only [Bool.and_eq_true] at h
    rw [Nat.eq_of_beq_eq_true h.1, Nat.eq_of_beq_eq_true h.2]
  · rfl
  · rfl
  · cases h
mutual
theorem same_eq : ∀ (a b : AV), AV.same a b = true → a = b
  | .lit a, .lit b, h => by unfold AV.same at h; rw [vsame_eq h]
  | .ptr _ _, .ptr _ _, h => by
    simp only [AV.same, Bool.and_eq_true] at h
    rw [Nat.eq_of_beq_eq_true h.1, Nat.eq_of_beq_eq_true h.2]
  | .slice _ _ _ c, .slice _ _ _ c', h => by
    simp only [AV.same, Bool.and_eq_true] at h
    obtain ⟨⟨⟨h1, h2⟩, h3⟩, h4⟩ := h
    rw [Nat.eq_of_beq_eq_true h1, Nat.eq_of_beq_eq_true h2, Nat.eq_of_beq_eq_true h3]
    cases c <;> cases c' <;> simp only [Bool.false_eq_true] at h4 <;> rw [Nat.eq_of_beq_eq_true h4]
  | .map _, .map _, h => by simp only [AV.same] at h; rw [Nat.eq_of_beq_eq_true h]
  | .iface _ b, .iface _ d, h => by
    simp only [AV.same, Bool.and_eq_true] at h
    rw [Nat.eq_of_beq_eq_true h.1, same_eq b d h.2]
  | .agg a, .agg b, h => by simp only [AV.same] at h; rw [sames_eq a b h]
  | .tuple a, .tuple b, h => by simp only [AV.same] at h; rw [sames_eq a b h]
  | .func .., _, h => by simp [AV.same] at h
  | .lit _, .ptr .., h | .lit _, .slice .., h | .lit _, .map .., h | .lit _, .func .., h | .lit _, .iface .., h | .lit _, .agg .., h | .lit _, .tuple .., h => by simp [AV.same] at h
  | .ptr .., .lit _, h | .ptr .., .slice .., h | .ptr .., .map .., h | .ptr .., .func .., h | .ptr .., .iface .., h | .ptr .., .agg .., h | .ptr .., .tuple .., h => by simp [AV.same] at h
  | .slice .., .lit _, h | .slice .., .ptr .., h | .slice .., .map .., h | .slice .., .func .., h | .slice .., .iface .., h | .slice .., .agg .., h | .slice .., .tuple .., h => by simp [AV.same] at h
  | .map .., .lit _, h | .map .., .ptr .., h | .map .., .slice .., h | .map .., .func .., h | .map .., .iface .., h | .map .., .agg .., h | .map .., .tuple .., h => by simp [AV.same] at h
  | .iface .., .lit _, h | .iface .., .ptr .., h | .iface .., .slice .., h | .iface .., .map .., h | .iface .., .func .., h | .iface .., .agg .., h | .iface .., .tuple .., h => by simp [AV.same] at h
  | .agg .., .lit _, h | .agg .., .ptr .., h | .agg .., .slice .., h | .agg .., .map .., h | .agg .., .func .., h | .agg .., .iface .., h | .agg .., .tuple .., h => by simp [AV.same] at h
  | .tuple .., .lit _, h | .tuple .., .ptr .., h | .tuple .., .slice .., h | .tuple .., .map .., h | .tuple .., .func .., h | .tuple .., .iface .., h | .tuple .., .agg .., h => by simp [AV.same] at h
theorem sames_eq : ∀ (a b : List AV), AV.sames a b = true → a = b
  | [], [], _ => rfl
  | [], _ :: _, h => by simp [AV.sames] at h
  | _ :: _, [], h => by simp [AV.sames] at h
  | a :: l, b :: m, h => by
    simp only [AV.sames, Bool.and_eq_true] at h
    rw [same_eq a b h.1, sames_eq l m h.2]
end
theorem again_ok {E : Env} {pm : Nat} {t : Tmps} {σ : AS} : ∀ {l : List Row}, again E pm t σ l = true → ∀ r ∈ l, has pm r.i = false →
    ∃ v, evOp E t σ r.o.op = some (.read v) ∧ ∀ d u, r.o.dst = some d → t.get d = some u → u = v
  | [], _, r, hr, _ => by cases hr
  | q :: l, h, r, hr, hp => by
    simp only [again, Bool.and_eq_true, Bool.or_eq_true] at h
    rcases List.mem_cons.1 hr with rfl | hr
    · have h1 := h.1.resolve_left (by rw [hp]; simp)
      split at h1
      · rename_i v d he hd
        refine ⟨v, he, fun d' u e hu => ?_⟩
        have e := Option.some.inj (hd.symm.trans e)
        subst e
        rw [hu] at h1
        exact same_eq u v h1
      · rename_i v he hd
        exact ⟨v, he, fun d u e _ => by rw [hd] at e; cases e⟩
      · cases h1
    · exact again_ok h.2 r hr hp
theorem pick_ok {p : Row → Bool} : ∀ {l : List Row} {r : Row} {m : List Row}, pickRow p l = some (r, m) → p r = true ∧ l.Perm (r :: m)
  | [], r, m, h => by simp [pickRow] at h
  | x :: l, r, m, h => by
    simp only [pickRow] at h
    split at h
    · rename_i hp
      simp only [Option.some.injEq, Prod.mk.injEq] at h
      obtain ⟨rfl, rfl⟩ := h
      exact ⟨hp, .refl _⟩
    · split at h
      · rename_i q m' hq
        simp only [Option.some.injEq, Prod.mk.injEq] at h
        obtain ⟨rfl, rfl⟩ := h
        obtain ⟨h1, h2⟩ := pick_ok hq
        exact ⟨h1, (h2.cons x).trans (.swap ..)⟩
      · cases h
theorem pick_none {p : Row → Bool} : ∀ {l : List Row}, pickRow p l = none → ∀ r ∈ l, p r = false
  | [], _, r, hr => by cases hr
  | x :: l, h, r, hr => by
    simp only [pickRow] at h
    split at h
    · cases h
    · rename_i hp
      split at h
      · cases h
      · rename_i hq
        rcases List.mem_cons.1 hr with rfl | hr
        · exact hp
        · exact pick_none hq r hr
inductive PK where
  | no
  | now (v : AV)
  | read (v : AV)
  | new (ob : AObj) (k : NewK) (id : Nat)
def PK.val : PK → AV
  | .no => undefV
  | .now v => v
  | .read v => v
  | .new _ k id => k.val id
def Pend (E : Env) (ops : List Oper) (rd : List Row) (t : Tmps) (σ : AS) (γ : Gam) (r : Row) : PK → Prop
  | .no => wantedA ops t r.o = some false
  | .now v => wantedA ops t r.o = some true ∧ evOp E t σ r.o.op = some (.pure v)
  | .read v => wantedA ops t r.o = some true ∧ r ∈ rd ∧ ∃ u, evOp E t σ r.o.op = some (.read u) ∧ (r.o.dst ≠ none → u = v)
  | .new ob k id => wantedA ops t r.o = some true ∧ evOp E t σ r.o.op = some (.new ob k) ∧ id < σ.next ∧ γ id = none ∧ σ.heap.get id = some ob
def SameAt (l : List Nat) (t t' : Tmps) : Prop := ∀ d ∈ l, t.get d = t'.get d
theorem sameAt_wanted {ops : Array Oper} {o : Oper} {t t' : Tmps} (h : SameAt (o.looksAt ops) t t') : wantedA ops.toList t o = wantedA ops.toList t' o :=
  wantedA_congr fun d hd => h d (by
    unfold Oper.looksAt
    refine List.mem_append_right _ ?_
    cases hg : o.guard with
    | none => rw [hg] at hd; cases hd
    | some g =>
      obtain ⟨j, want⟩ := g
      rw [hg] at hd
      simp only [Option.bind_some] at hd
      simp only [hd]
      simp)
theorem sameAt_evOp {E : Env} {σ : AS} {ops : Array Oper} {o : Oper} {t t' : Tmps} (h : SameAt (o.looksAt ops) t t') : evOp E t σ o.op = evOp E t' σ o.op :=
  evOp_congr o.op fun x hx => by
    cases x with
    | tmp d => exact h d (List.mem_append_left _ (List.mem_filterMap.2 ⟨.tmp d, by simpa using hx, rfl⟩))
    | _ => rfl
theorem sameAt_step {E : Env} {cb : Cb} {σ : AS} {ops : Array Oper} {o : Oper} {t t' : Tmps} (h : SameAt (o.looksAt ops) t t') : stepV E cb ops.toList o t σ = stepV E cb ops.toList o t' σ := by
  unfold stepV
  rw [sameAt_wanted h, sameAt_evOp h]
def Pending (done : Nat) (listed : Array Bool) (r : Row) : Prop := has done r.i = true ∧ listed.getD r.i false = false
open Classical in
noncomputable def pmask (rows : List Row) (done : Nat) (listed : Array Bool) (d : Nat) : Bool := decide (∃ r ∈ rows, Pending done listed r ∧ r.o.dst = some d)
theorem pmask_t {rows : List Row} {done : Nat} {listed : Array Bool} {d : Nat} : pmask rows done listed d = true ↔ ∃ r ∈ rows, Pending done listed r ∧ r.o.dst = some d := by
  classical unfold pmask; exact decide_eq_true_iff
theorem pmask_f {rows : List Row} {done : Nat} {listed : Array Bool} {d : Nat} : pmask rows done listed d = false ↔ ∀ r ∈ rows, Pending done listed r → r.o.dst ≠ some d := by
  rw [← Bool.not_eq_true, pmask_t]
  constructor
  · intro h r hr hp e; exact h ⟨r, hr, hp, e⟩
  · rintro h ⟨r, hr, hp, e⟩; exact h r hr hp e
structure Inv (F : Frz) (E : Env) (ops : Array Oper) (rows : List Row) (n : Nat) (γ0 : Gam) (σ0 : AS) (done : Nat) (rem rd : List Row) (t : Tmps) (σ : AS) (kd : Nat → PK) (γ : Gam) (listed : Array Bool) (a : Act) (w : World) : Prop where
  remIn : ∀ r ∈ rem, r ∈ rows ∧ has done r.i = false
  cover : ∀ r ∈ rows, has done r.i = true ∨ r ∈ rem
  remD : rem.Pairwise (fun r q => r.i ≠ q.i)
  down : ∀ r ∈ rows, has done r.i = true → ∀ j, has r.pm j = true → has done j = true
  sub : ∀ r ∈ rows, listed.getD r.i false = true → has done r.i = true
  size : listed.size = ops.size
  pend : ∀ r ∈ rows, Pending done listed r → r.early = true ∧ Pend E ops.toList rd t σ γ r (kd r.i) ∧ (∀ d, r.o.dst = some d → t.get d = some (kd r.i).val ∧ d < n)
  ids : ∀ r ∈ rows, ∀ q ∈ rows, Pending done listed r → Pending done listed q → ∀ ob k id ob' k', kd r.i = .new ob k id → kd q.i = .new ob' k' id → r.i = q.i
  fresh : ∀ r ∈ rows, Pending done listed r → ∀ ob k id, kd r.i = .new ob k id → σ0.next ≤ id
  rel : RelL F γ σ w
  step : Step γ0 σ0 γ σ
  tmps : ConcT γ n (T.mask (pmask rows done listed) t) a
theorem getD_set_self {listed : Array Bool} {i : Nat} (h : i < listed.size) (d : Bool) : (listed.setIfInBounds i true).getD i d = true := by
  simp [h]
section
variable {F : Frz} {P : Program} {E : Env} {ops : Array Oper} {rows : List Row} (hrows : RowsOk ops rows) {n : Nat} {γ0 : Gam} {σ0 : AS} {done : Nat} {rem rd : List Row} {t : Tmps} {σ : AS} {kd : Nat → PK} {γ : Gam} {listed : Array Bool} {a : Act} {w : World}
include hrows
theorem RowsOk.idx {r : Row} (hr : r ∈ rows) : r.i < ops.size := (Array.getElem?_eq_some_iff.1 (hrows.row r hr).1).1
theorem RowsOk.looksEq {r : Row} (hr : r ∈ rows) : r.looks = r.o.looksAt ops := by
  rw [(hrows.row r hr).2]; rfl
theorem RowsOk.earlyEq {r : Row} (hr : r ∈ rows) : r.early = early r.o.op := by
  rw [(hrows.row r hr).2]; rfl
theorem ready_row {i : Nat} (h : i ∈ Region.ready .any ops listed) : ∃ r ∈ rows, r.i = i ∧ listed.getD i true = false ∧ ∀ j, has r.pm j = true → listed.getD j false = true := by
  obtain ⟨h0, o, ho, hall⟩ := mem_ready.1 h
  refine ⟨_, hrows.all i o ho, rfl, h0, fun j hj => ?_⟩
  obtain ⟨e, he, hb, rfl⟩ := (has_predMask j _).1 hj
  exact hall e (by simpa using he) hb
omit hrows in
theorem getD_false_of (hs : listed.size = ops.size) {i : Nat} (h : listed.getD i true = false) : listed.getD i false = false := by
  rcases Nat.lt_or_ge i listed.size with h' | h'
  · simpa [h'] using h
  · simp [Array.getElem?_eq_none h'] at h
theorem keep_looks (hI : Inv F E ops rows n γ0 σ0 done rem rd t σ kd γ listed a w) {r q : Row} (hr : r ∈ rows) (hnr : has done r.i = false) (hq : q ∈ rows) (hp : Pending done listed q)
    (hre : r.early = true ∨ ∀ j, has r.pm j = true → listed.getD j false = true) (d : Nat) (hd : r.o.dst = some d) : d ∉ q.looks ∧ q.o.dst ≠ some d := by
  have hne : r.i ≠ q.i := fun e => by have := hp.1; rw [← e, hnr] at this; cases this
  have hpo := hrows.pair r hr q hq hne
  refine ⟨fun hm => ?_, fun e => ?_⟩
  · rcases hpo.looks d hd hm with h | ⟨h, h'⟩
    · have := hI.down q hq hp.1 _ h
      rw [hnr] at this; cases this
    · rcases hre with e | e
      · rw [h'] at e; cases e
      · have := e _ h
        rw [hp.2] at this; cases this
  · have h1 := (hpo.dst d hd e).2
    rw [(hI.pend q hq hp).1] at h1; cases h1
omit hrows in
theorem putA_get {t t1 : Tmps} {dst : Option Nat} {v : AV} (h : putA n t dst v = some t1) (hn : n ≤ lim) (i : Nat) : t1.get i = if dst = some i then some v else t.get i := by
  unfold putA at h
  cases dst with
  | none => simp only [Option.some.injEq] at h; subst h; simp
  | some d =>
    simp only [] at h
    split at h
    · rename_i hlt
      have := blt_t hlt
      simp only [Option.some.injEq] at h
      subst h
      rw [T.get_put _ _ _ _ (by omega)]
      by_cases e : i = d
      · subst e; simp
      · rw [if_neg e, if_neg (fun h => e (Option.some.inj h).symm)]
    · cases h
omit hrows in
theorem putA_lt {t t1 : Tmps} {d : Nat} {v : AV} (h : putA n t (some d) v = some t1) : d < n := by
  unfold putA at h
  simp only [] at h
  split at h
  · rename_i hlt; exact blt_t hlt
  · cases h
theorem Pend.keep {q : Row} (hq : q ∈ rows) {rd1 : List Row} {t1 : Tmps} {σ1 : AS} {γ1 : Gam} {k : PK} (hsame : SameAt q.looks t t1) (hrd : ∀ v, k = .read v → q ∈ rd → q ∈ rd1 ∧ ∃ u, evOp E t1 σ1 q.o.op = some (.read u) ∧ (q.o.dst ≠ none → u = v))
    (hσ : Step γ σ γ1 σ1) (h : Pend E ops.toList rd t σ γ q k) : Pend E ops.toList rd1 t1 σ1 γ1 q k := by
  rw [hrows.looksEq hq] at hsame
  have hw := sameAt_wanted hsame
  cases k with
  | no => exact hw.symm.trans h
  | now v => exact ⟨hw ▸ h.1, evOp_pure σ1 (sameAt_evOp (E := E) (σ := σ) hsame ▸ h.2)⟩
  | read v =>
    obtain ⟨h1, h2, u, h3, h4⟩ := h
    obtain ⟨e1, e2⟩ := hrd v rfl h2
    exact ⟨hw ▸ h1, e1, e2⟩
  | new ob k id =>
    obtain ⟨h1, h2, h3, h4, h5⟩ := h
    exact ⟨hw ▸ h1, evOp_new σ1 (sameAt_evOp (E := E) (σ := σ) hsame ▸ h2), Nat.lt_of_lt_of_le h3 hσ.le, hσ.new id h3 h4, (hσ.same id h3 h4).trans h5⟩
theorem Inv.ahead (hI : Inv F E ops rows n γ0 σ0 done rem rd t σ kd γ listed a w) (hn : n ≤ lim) {r : Row} {rem1 : List Row} (hp : rem.Perm (r :: rem1)) (hre : r.early = true) (hrdy : ready done r = true) {k : PK} {t1 : Tmps} (ht : putA n t r.o.dst k.val = some t1) {rd1 : List Row} {σ1 : AS}
    (hk : Pend E ops.toList rd1 t1 σ1 γ r k) (hnew : ∀ ob x id, k = .new ob x id → σ.next ≤ id)
    (hrd : ∀ q v, q ∈ rows → kd q.i = .read v → q ∈ rd → (∃ u, evOp E t1 σ q.o.op = some (.read u) ∧ (q.o.dst ≠ none → u = v)) → (∀ d, q.o.dst = some d → t1.get d = some v) → q ∈ rd1 ∧ ∃ u, evOp E t1 σ1 q.o.op = some (.read u) ∧ (q.o.dst ≠ none → u = v))
    (hR : RelL F γ σ1 w) (hS : Step γ σ γ σ1) :
    Inv F E ops rows n γ0 σ0 (Nat.lor done (Nat.shiftLeft 1 r.i)) rem1 rd1 t1 σ1 (fun j => if j = r.i then k else kd j) γ listed a w := by
  have hrm : r ∈ rem := hp.mem_iff.2 (by simp)
  obtain ⟨hr, hnr⟩ := hI.remIn r hrm
  have hD : (r :: rem1).Pairwise (fun r q => r.i ≠ q.i) := (hp.pairwise_iff (fun h => Ne.symm h)).1 hI.remD
  rw [List.pairwise_cons] at hD
  have hdone : ∀ j, has (Nat.lor done (Nat.shiftLeft 1 r.i)) j = true ↔ has done j = true ∨ j = r.i := fun j => by rw [has_lor]; simp
  have hlr : listed.getD r.i false = false := by
    cases h : listed.getD r.i false with
    | false => rfl
    | true => have := hI.sub r hr h; rw [hnr] at this; cases this
  have hpend : ∀ q ∈ rows, Pending (Nat.lor done (Nat.shiftLeft 1 r.i)) listed q → (q = r ∨ (q.i ≠ r.i ∧ Pending done listed q)) := fun q hq h => by
    by_cases e : q.i = r.i
    · exact .inl (hrows.eq hq hr e)
    · exact .inr ⟨e, ((hdone q.i).1 h.1).resolve_right e, h.2⟩
  have hkeep := fun (q : Row) (hq : q ∈ rows) (hq' : Pending done listed q) => keep_looks hrows hI hr hnr hq hq' (.inl hre)
  have hget := putA_get ht hn
  refine ⟨fun q hq => ?_, fun q hq => ?_, hD.2, fun q hq h j hj => ?_, fun q hq h => ?_, hI.size, fun q hq h => ?_, fun q hq q' hq' h h' ob x id ob' x' e e' => ?_, fun q hq h ob x id e => ?_, hR, hI.step.trans hS, ?_⟩
  · have hq' : q ∈ rem := hp.mem_iff.2 (by simp [hq])
    obtain ⟨h1, h2⟩ := hI.remIn q hq'
    refine ⟨h1, ?_⟩
    rw [has_lor, h2]
    simp [Ne.symm (hD.1 q hq)]
  · rcases hI.cover q hq with h | h
    · exact .inl ((hdone _).2 (.inl h))
    · rcases List.mem_cons.1 (hp.mem_iff.1 h) with rfl | h
      · exact .inl ((hdone _).2 (.inr rfl))
      · exact .inr h
  · rcases (hdone _).1 h with h | h
    · exact (hdone _).2 (.inl (hI.down q hq h j hj))
    · have e := hrows.eq hq hr h
      subst e
      exact (hdone _).2 (.inl (ready_t.1 hrdy j hj))
  · exact (hdone _).2 (.inl (hI.sub q hq h))
  · rcases hpend q hq h with rfl | ⟨hne, h'⟩
    · refine ⟨hre, ?_, fun d hd => ?_⟩
      · rw [if_pos rfl]; exact hk
      · rw [if_pos rfl, hget, if_pos hd]
        refine ⟨rfl, ?_⟩
        rw [hd] at ht
        exact putA_lt ht
    · obtain ⟨h1, h2, h3⟩ := hI.pend q hq h'
      rw [if_neg hne]
      have hsame : SameAt q.looks t t1 := fun d hd => by
        rw [hget, if_neg]
        intro e
        exact (hkeep q hq h' d e).1 hd
      have hslot : ∀ d, q.o.dst = some d → t1.get d = t.get d := fun d hd => by
        rw [hget, if_neg]
        intro e
        exact (hkeep q hq h' d e).2 hd
      refine ⟨h1, Pend.keep hrows hq hsame (fun v ev hm => ?_) hS h2, fun d hd => ?_⟩
      · have h2' := h2
        rw [ev] at h2'
        obtain ⟨_, _, u, h4, h5⟩ := h2'
        have hs := hsame
        rw [hrows.looksEq hq] at hs
        rw [sameAt_evOp hs] at h4
        exact hrd q v hq ev hm ⟨u, h4, h5⟩ fun d hd => by rw [hslot d hd, (h3 d hd).1, ev]; rfl
      · rw [hslot d hd]; exact h3 d hd
  · rcases hpend q hq h with rfl | ⟨hne, h1⟩ <;> rcases hpend q' hq' h' with rfl | ⟨hne', h1'⟩
    · rfl
    · rw [if_pos rfl] at e
      rw [if_neg hne'] at e'
      have h2 := hnew ob x id e
      have h3 := (hI.pend q' hq' h1').2.1
      rw [e'] at h3
      have := h3.2.2.1
      omega
    · rw [if_pos rfl] at e'
      rw [if_neg hne] at e
      have h2 := hnew _ _ _ e'
      have h3 := (hI.pend q hq h1).2.1
      rw [e] at h3
      have := h3.2.2.1
      omega
    · rw [if_neg hne] at e
      rw [if_neg hne'] at e'
      exact hI.ids q hq q' hq' h1 h1' ob x id ob' x' e e'
  · rcases hpend q hq h with rfl | ⟨hne, h1⟩
    · rw [if_pos rfl] at e
      have := hnew _ _ _ e
      have := hI.step.le
      omega
    · rw [if_neg hne] at e
      exact hI.fresh q hq h1 ob x id e
  · refine ⟨hI.tmps.size, hI.tmps.defers, fun i v hv => ?_⟩
    rw [T.get_mask] at hv
    split at hv
    · cases hv
    · rename_i hm
      have hm := pmask_f.1 (Bool.not_eq_true _ ▸ hm : _ = false)
      have hri : r.o.dst ≠ some i := hm r hr ⟨(hdone _).2 (.inr rfl), hlr⟩
      rw [hget, if_neg hri] at hv
      refine hI.tmps.get i v ?_
      rw [T.get_mask, if_neg, hv]
      rw [Bool.not_eq_true, pmask_f]
      exact fun q hq h => hm q hq ⟨(hdone _).2 (.inl h.1), h.2⟩
end
end Go.Proofs.YtldjgpnbkbmgoaaGreatDoor.Ev
namespace Go.Proofs.YtldjgpnbkbmgoaaGreatDoor.Ev
theorem Step.place' {γ0 γ : Gam} {σ0 σ : AS} {id : Nat} (q : Option Place) (hg : γ id = none) (hid : σ0.next ≤ id) (h : Step γ0 σ0 γ σ) : Step γ0 σ0 (upd γ id q) σ :=
  ⟨h.ext.trans (ext_upd q hg), fun o ho hgo => by rw [upd_ne _ _ (by omega)]; exact h.new o ho hgo, h.le, h.same⟩
theorem stepV_lone {E : Env} {cb : Cb} {ops : List Oper} {o : Oper} {t : Tmps} {σ σ' : AS} {v : AV} (h : stepV E cb ops o t σ = some (v, σ', 3)) : σ' = σ := by
  unfold stepV at h
  (repeat' split at h) <;> simp only [Option.some.injEq, Prod.mk.injEq, reduceCtorEq] at h
  all_goals first
    | exact h.2.1.symm
    | (exfalso; have := h.2.2; omega)
section
variable {F : Frz} {P : Program} {E : Env} (hE : EnvOk P E) {ops : Array Oper} {rows : List Row} (hrows : RowsOk ops rows) {n : Nat} {γ0 : Gam} {σ0 : AS} {done : Nat} {rem rd : List Row} {t : Tmps} {σ : AS} {kd : Nat → PK} {γ : Gam} {listed : Array Bool} {a : Act} {w : World}
include hrows
theorem mask_same (hI : Inv F E ops rows n γ0 σ0 done rem rd t σ kd γ listed a w) {r : Row} (hr : r ∈ rows) (hs : Pending done listed r → r.early = true) (hc : ∀ j, has r.pm j = true → listed.getD j false = true) : SameAt r.looks t (T.mask (pmask rows done listed) t) := fun d hd => by
  rw [T.get_mask, if_neg]
  rw [Bool.not_eq_true, pmask_f]
  intro q hq hp e
  by_cases hqr : q.i = r.i
  · have := hrows.eq hq hr hqr
    subst this
    exact hrows.self q hq (hs hp) d e hd
  · rcases (hrows.pair q hq r hr hqr).looks d e hd with h | ⟨_, h⟩
    · have := hc _ h
      rw [hp.2] at this; cases this
    · rw [(hI.pend q hq hp).1] at h; cases h
theorem Inv.laid (hI : Inv F E ops rows n γ0 σ0 done rem rd t σ kd γ listed a w) {r : Row} (hr : r ∈ rows) (hp : Pending done listed r) {γ' : Gam} {x : Value} {w' : World} (hx : Conc γ' (kd r.i).val x) (hR : RelL F γ' σ w') (hS : Step γ0 σ0 γ' σ) (hext : Ext γ γ')
    (hkeep : ∀ q ∈ rows, Pending done listed q → q.i ≠ r.i → Pend E ops.toList rd t σ γ q (kd q.i) → Pend E ops.toList rd t σ γ' q (kd q.i)) :
    Inv F E ops rows n γ0 σ0 done rem rd t σ kd γ' (listed.setIfInBounds r.i true) (a.put r.o.dst x) w' := by
  have hi : r.i < listed.size := by rw [hI.size]; exact hrows.idx hr
  have hset : ∀ j, (listed.setIfInBounds r.i true).getD j false = if j = r.i then true else listed.getD j false := fun j => by
    by_cases e : j = r.i
    · subst e; rw [if_pos rfl, getD_set_self hi]
    · rw [if_neg e, getD_set_ne _ (Ne.symm e)]
  have hpend : ∀ q, Pending done (listed.setIfInBounds r.i true) q ↔ Pending done listed q ∧ q.i ≠ r.i := fun q => by
    unfold Pending
    rw [hset]
    by_cases e : q.i = r.i
    · simp [e]
    · simp [e]
  refine ⟨hI.remIn, hI.cover, hI.remD, hI.down, fun q hq h => ?_, by simp [hI.size], fun q hq h => ?_, fun q hq q' hq' h h' => hI.ids q hq q' hq' ((hpend q).1 h).1 ((hpend q').1 h').1, fun q hq h => hI.fresh q hq ((hpend q).1 h).1, hR, hS, ?_⟩
  · rw [hset] at h
    by_cases e : q.i = r.i
    · rw [e]; exact hp.1
    · rw [if_neg e] at h; exact hI.sub q hq h
  · obtain ⟨h1, hne⟩ := (hpend q).1 h
    obtain ⟨p1, p2, p3⟩ := hI.pend q hq h1
    exact ⟨p1, hkeep q hq h1 hne p2, p3⟩
  · refine ⟨by cases r.o.dst <;> simpa [Act.put] using hI.tmps.size, by cases r.o.dst <;> exact hI.tmps.defers, fun i v hv => ?_⟩
    rw [T.get_mask] at hv
    split at hv
    · cases hv
    · rename_i hm
      have hm := pmask_f.1 (Bool.not_eq_true _ ▸ hm : _ = false)
      by_cases e : r.o.dst = some i
      · obtain ⟨h1, h2⟩ := (hI.pend r hr hp).2.2 i e
        rw [h1] at hv
        cases hv
        refine ⟨x, ?_, hx⟩
        rw [e]
        simp only [Act.put]
        rw [Array.getElem?_setIfInBounds_self_of_lt (Nat.lt_of_lt_of_le h2 hI.tmps.size)]
      · obtain ⟨y, h1, h2⟩ := hI.tmps.get i v (by
          rw [T.get_mask, if_neg, hv]
          rw [Bool.not_eq_true, pmask_f]
          intro q hq h e'
          by_cases hqr : q.i = r.i
          · have := hrows.eq hq hr hqr
            subst this
            exact e e'
          · exact hm q hq ((hpend q).2 ⟨h, hqr⟩) e')
        refine ⟨y, ?_, h2.mono hext _ _⟩
        cases hd : r.o.dst with
        | none => exact h1
        | some d =>
          simp only [Act.put]
          rw [Array.getElem?_setIfInBounds_ne (fun h => e (by rw [hd, h]))]
          exact h1
include hE in
theorem Inv.pendStep (hI : Inv F E ops rows n γ0 σ0 done rem rd t σ kd γ listed a w) {r : Row} (hr : r ∈ rows) (hp : Pending done listed r) (hc : ∀ j, has r.pm j = true → listed.getD j false = true) {Q : Exit → Act → World → Prop} {K : Act → World → Prop}
    (hK : ∀ γ' a' w', Inv F E ops rows n γ0 σ0 done rem rd t σ kd γ' (listed.setIfInBounds r.i true) a' w' → K a' w') : wpOp P ops Q r.i K a w := by
  obtain ⟨he, hP, _⟩ := hI.pend r hr hp
  have hsame := mask_same hrows hI hr (fun _ => he) hc
  rw [hrows.looksEq hr] at hsame
  have hwant : ∀ b, wantedA ops.toList t r.o = some b → Region.wanted r.o (yielded ops a.tmps) = b := fun b hb => by
    rw [sameAt_wanted hsame] at hb
    exact wanted_ok (γ := γ) (n := n) hb fun d u _ hu => hI.tmps.get d u hu
  have hev := fun out (h : evOp E t σ r.o.op = some out) => (sameAt_evOp (E := E) (σ := σ) hsame).symm.trans h
  have hρ := hI.tmps.opnd
  have hstay : ∀ x, Conc γ (kd r.i).val x → K (a.put r.o.dst x) w := fun x hx => hK γ _ _ (hI.laid hrows hr hp hx hI.rel hI.step (.refl γ) fun q hq h hne hP => hP)
  unfold wpOp
  simp only [(hrows.row r hr).1]
  cases hk : kd r.i with
  | no =>
    rw [hk] at hP
    rw [hwant _ hP]
    simp only [Bool.false_eq_true, if_false]
    exact hstay undef (by rw [hk]; exact conc_lit γ _)
  | now v =>
    rw [hk] at hP
    rw [hwant _ hP.1]
    simp only [if_true]
    refine .inl ?_
    unfold Oper.wp
    obtain ⟨x, h1, h2⟩ := val_ok hE hI.rel.toRel hρ r.o (hev _ hP.2) (.inl rfl)
    rw [h1, Oper.upon_value]
    exact hstay x (by rw [hk]; exact h2)
  | read v =>
    rw [hk] at hP
    obtain ⟨hP1, _, u, hP3, hP4⟩ := hP
    rw [hwant _ hP1]
    simp only [if_true]
    refine .inl ?_
    unfold Oper.wp
    obtain ⟨x, h1, h2⟩ := val_ok hE hI.rel.toRel hρ r.o (hev _ hP3) (.inr rfl)
    rw [h1, Oper.upon_value]
    cases hd : r.o.dst with
    | none =>
      obtain ⟨z, hz⟩ : ∃ z, Conc γ v z ∨ True := ⟨undef, .inr trivial⟩
      have hI' := hI
      refine hK γ _ _ ?_
      have hi : r.i < listed.size := by rw [hI.size]; exact hrows.idx hr
      have hset : ∀ j, (listed.setIfInBounds r.i true).getD j false = if j = r.i then true else listed.getD j false := fun j => by
        by_cases e : j = r.i
        · subst e; rw [if_pos rfl, getD_set_self hi]
        · rw [if_neg e, getD_set_ne _ (Ne.symm e)]
      have hpend : ∀ q, Pending done (listed.setIfInBounds r.i true) q ↔ Pending done listed q ∧ q.i ≠ r.i := fun q => by
        unfold Pending
        rw [hset]
        by_cases e : q.i = r.i <;> simp [e]
      refine ⟨hI.remIn, hI.cover, hI.remD, hI.down, fun q hq h => ?_, by simp [hI.size], fun q hq h => hI.pend q hq ((hpend q).1 h).1, fun q hq q' hq' h h' => hI.ids q hq q' hq' ((hpend q).1 h).1 ((hpend q').1 h').1, fun q hq h => hI.fresh q hq ((hpend q).1 h).1, hI.rel, hI.step, ⟨hI.tmps.size, hI.tmps.defers, fun i v hv => hI.tmps.get i v ?_⟩⟩
      · rw [hset] at h
        by_cases e : q.i = r.i
        · rw [e]; exact hp.1
        · rw [if_neg e] at h; exact hI.sub q hq h
      · rw [T.get_mask] at hv ⊢
        split at hv
        · cases hv
        · rename_i hm
          have hm := pmask_f.1 (Bool.not_eq_true _ ▸ hm : _ = false)
          rw [if_neg, hv]
          rw [Bool.not_eq_true, pmask_f]
          intro q hq h e'
          by_cases hqr : q.i = r.i
          · have := hrows.eq hq hr hqr
            subst this
            rw [hd] at e'; cases e'
          · exact hm q hq ((hpend q).2 ⟨h, hqr⟩) e'
    | some d =>
      rw [← hd]
      exact hstay x (by rw [hk]; rw [← hP4 (by rw [hd]; simp)]; exact h2)
  | new ob k id =>
    rw [hk] at hP
    obtain ⟨hP1, hP2, hP3, hP4, hP5⟩ := hP
    rw [hwant _ hP1]
    simp only [if_true]
    refine .inl ?_
    unfold Oper.wp
    obtain ⟨hd, cob, x, top, h1, h2⟩ := new_ok hE (σ := σ) (w := w) hρ r.o (hev _ hP2)
    have hrel := h2 (upd γ id (some ⟨w.heap.size, 0, top⟩)) id { w with heap := w.heap.push cob } (ext_upd _ hP4) (upd_self _ _ _) (by simp)
    rw [h1, Oper.upon_value]
    refine hK _ _ _ (hI.laid hrows hr hp (by rw [hk]; exact hrel.2) (hI.rel.place hP3 hP4 hP5 hd cob 0 top hrel.1) (Step.place' _ hP4 (hI.fresh r hr hp ob k id hk) hI.step) (ext_upd _ hP4) fun q hq h hne hPq => ?_)
    cases hkq : kd q.i with
    | no => rw [hkq] at hPq; exact hPq
    | now v => rw [hkq] at hPq; exact hPq
    | read v => rw [hkq] at hPq; exact hPq
    | new ob' k' id' =>
      rw [hkq] at hPq
      obtain ⟨q1, q2, q3, q4, q5⟩ := hPq
      refine ⟨q1, q2, q3, ?_, q5⟩
      rw [upd_ne _ _ fun e => ?_]
      · exact q4
      · subst e
        exact hne (hI.ids q hq r hr h hp _ _ _ _ _ hkq hk)
include hE in
theorem Inv.lockStep (hI : Inv F E ops rows n γ0 σ0 done rem rd t σ kd γ listed a w) (hn : n ≤ lim) {cb : Cb} (hcb : CbOk P cb) {r : Row} {rem1 : List Row} (hp : rem.Perm (r :: rem1)) (hc : ∀ j, has r.pm j = true → listed.getD j false = true)
    {v : AV} {σ1 : AS} {tag : Nat} (hs : stepV E cb ops.toList r.o t σ = some (v, σ1, tag)) {t1 : Tmps} (ht : putA n t r.o.dst v = some t1) (ha : tag = 3 ∨ again E r.pm t1 σ1 rd = true) {Q : Exit → Act → World → Prop} {K : Act → World → Prop}
    (hK : ∀ γ' a' w', Inv F E ops rows n γ0 σ0 (Nat.lor done (Nat.shiftLeft 1 r.i)) rem1 rd t1 σ1 kd γ' (listed.setIfInBounds r.i true) a' w' → K a' w') : wpOp P ops Q r.i K a w := by
  have hrm : r ∈ rem := hp.mem_iff.2 (by simp)
  obtain ⟨hr, hnr⟩ := hI.remIn r hrm
  have hD : (r :: rem1).Pairwise (fun r q => r.i ≠ q.i) := (hp.pairwise_iff (fun h => Ne.symm h)).1 hI.remD
  rw [List.pairwise_cons] at hD
  have hsame := mask_same hrows hI hr (fun h => absurd h.1 (by rw [hnr]; simp)) hc
  rw [hrows.looksEq hr] at hsame
  have hs' := hs
  rw [sameAt_step hsame] at hs'
  refine stepV_ok hE hcb hs' (hrows.row r hr).1 hI.rel hI.tmps fun γ' x w' hx hR hS => hK γ' _ _ ?_
  have hi : r.i < listed.size := by rw [hI.size]; exact hrows.idx hr
  have hset : ∀ j, (listed.setIfInBounds r.i true).getD j false = if j = r.i then true else listed.getD j false := fun j => by
    by_cases e : j = r.i
    · subst e; rw [if_pos rfl, getD_set_self hi]
    · rw [if_neg e, getD_set_ne _ (Ne.symm e)]
  have hdone : ∀ j, has (Nat.lor done (Nat.shiftLeft 1 r.i)) j = true ↔ has done j = true ∨ j = r.i := fun j => by rw [has_lor]; simp
  have hpend : ∀ q, Pending (Nat.lor done (Nat.shiftLeft 1 r.i)) (listed.setIfInBounds r.i true) q ↔ Pending done listed q := fun q => by
    unfold Pending
    rw [hset, hdone]
    by_cases e : q.i = r.i
    · simp [e, hnr]
    · simp [e]
  have hkeep := fun (q : Row) (hq : q ∈ rows) (hq' : Pending done listed q) => keep_looks hrows hI hr hnr hq hq' (.inr hc)
  have hget := putA_get ht hn
  refine ⟨fun q hq => ?_, fun q hq => ?_, hD.2, fun q hq h j hj => ?_, fun q hq h => ?_, by simp [hI.size], fun q hq h => ?_, fun q hq q' hq' h h' => hI.ids q hq q' hq' ((hpend q).1 h) ((hpend q').1 h'), fun q hq h => hI.fresh q hq ((hpend q).1 h), hR, hI.step.trans hS, ?_⟩
  · have hq' : q ∈ rem := hp.mem_iff.2 (by simp [hq])
    obtain ⟨h1, h2⟩ := hI.remIn q hq'
    refine ⟨h1, ?_⟩
    rw [has_lor, h2]
    simp [Ne.symm (hD.1 q hq)]
  · rcases hI.cover q hq with h | h
    · exact .inl ((hdone _).2 (.inl h))
    · rcases List.mem_cons.1 (hp.mem_iff.1 h) with rfl | h
      · exact .inl ((hdone _).2 (.inr rfl))
      · exact .inr h
  · rcases (hdone _).1 h with h | h
    · exact (hdone _).2 (.inl (hI.down q hq h j hj))
    · have e := hrows.eq hq hr h
      subst e
      have h1 := hc j hj
      have hlt : j < ops.size := Nat.lt_trans (hrows.lt q hq j hj) (hrows.idx hq)
      have h2 := hrows.all j _ (Array.getElem?_eq_getElem hlt)
      exact (hdone _).2 (.inl (hI.sub _ h2 h1))
  · rw [hset] at h
    by_cases e : q.i = r.i
    · exact (hdone _).2 (.inr e)
    · rw [if_neg e] at h; exact (hdone _).2 (.inl (hI.sub q hq h))
  · have h' := (hpend q).1 h
    obtain ⟨h1, h2, h3⟩ := hI.pend q hq h'
    have hsameq : SameAt q.looks t t1 := fun d hd => by
      rw [hget, if_neg]
      intro e
      exact (hkeep q hq h' d e).1 hd
    have hslot : ∀ d, q.o.dst = some d → t1.get d = t.get d := fun d hd => by
      rw [hget, if_neg]
      intro e
      exact (hkeep q hq h' d e).2 hd
    refine ⟨h1, Pend.keep hrows hq hsameq (fun v ev hm => ?_) hS h2, fun d hd => ?_⟩
    · have hnp : has r.pm q.i = false := by
        cases hh : has r.pm q.i with
        | false => rfl
        | true => have := hc _ hh; rw [h'.2] at this; cases this
      rcases ha with rfl | ha
      · have hσ := stepV_lone hs
        subst hσ
        have h2' := h2
        rw [ev] at h2'
        obtain ⟨_, _, u, h4, h5⟩ := h2'
        rw [hrows.looksEq hq] at hsameq
        rw [sameAt_evOp hsameq] at h4
        exact ⟨hm, u, h4, h5⟩
      obtain ⟨u, hu, hu'⟩ := again_ok ha q hm hnp
      refine ⟨hm, u, hu, fun hne => ?_⟩
      cases hd : q.o.dst with
      | none => exact absurd hd hne
      | some d =>
        have h4 := (h3 d hd).1
        rw [ev] at h4
        exact (hu' d v hd (by rw [hslot d hd]; exact h4)).symm
    · rw [hslot d hd]; exact h3 d hd
  · refine ⟨by cases r.o.dst <;> simpa [Act.put] using hI.tmps.size, by cases r.o.dst <;> exact hI.tmps.defers, fun i u hu => ?_⟩
    rw [T.get_mask] at hu
    split at hu
    · cases hu
    · rename_i hm
      have hm := pmask_f.1 (Bool.not_eq_true _ ▸ hm : _ = false)
      rw [hget] at hu
      by_cases e : r.o.dst = some i
      · rw [if_pos e] at hu
        cases hu
        refine ⟨x, ?_, hx⟩
        rw [e] at ht ⊢
        simp only [Act.put]
        rw [Array.getElem?_setIfInBounds_self_of_lt (Nat.lt_of_lt_of_le (putA_lt ht) hI.tmps.size)]
      · rw [if_neg e] at hu
        obtain ⟨y, h1, h2⟩ := hI.tmps.get i u (by
          rw [T.get_mask, if_neg, hu]
          rw [Bool.not_eq_true, pmask_f]
          exact fun q hq h => hm q hq ((hpend q).2 h))
        refine ⟨y, ?_, h2.mono hS.ext _ _⟩
        cases hd : r.o.dst with
        | none => exact h1
        | some d =>
          simp only [Act.put]
          rw [Array.getElem?_setIfInBounds_ne (fun h => e (by rw [hd, h]))]
          exact h1
theorem stepV_early {cb : Cb} {r : Row} (hr : r ∈ rows) (he : r.early = true) {v : AV} {σ1 : AS} {tag : Nat} (h : stepV E cb ops.toList r.o t σ = some (v, σ1, tag)) :
    (wantedA ops.toList t r.o = some false ∧ v = undefV ∧ σ1 = σ ∧ tag = 0) ∨
    (wantedA ops.toList t r.o = some true ∧ ((evOp E t σ r.o.op = some (.pure v) ∧ σ1 = σ ∧ tag = 0) ∨ (evOp E t σ r.o.op = some (.read v) ∧ σ1 = σ ∧ tag = 1) ∨
      ∃ ob k, evOp E t σ r.o.op = some (.new ob k) ∧ σ.next < lim ∧ v = k.val σ.next ∧ σ1 = { heap := σ.heap.put σ.next ob, next := σ.next + 1 } ∧ tag = 2)) := by
  rw [hrows.earlyEq hr] at he
  unfold stepV at h
  split at h
  · cases h
  · rename_i hw
    simp only [Option.some.injEq, Prod.mk.injEq] at h
    exact .inl ⟨hw, h.1.symm, h.2.1.symm, h.2.2.symm⟩
  · rename_i hw
    refine .inr ⟨hw, ?_⟩
    split at h
    · cases h
    · rename_i u hev
      simp only [Option.some.injEq, Prod.mk.injEq] at h
      obtain ⟨rfl, rfl, rfl⟩ := h
      exact .inl ⟨hev, rfl, rfl⟩
    · rename_i u hev
      simp only [Option.some.injEq, Prod.mk.injEq] at h
      obtain ⟨rfl, rfl, rfl⟩ := h
      exact .inr (.inl ⟨hev, rfl, rfl⟩)
    · rename_i ob k hev
      split at h
      · rename_i hlt
        simp only [Option.some.injEq, Prod.mk.injEq] at h
        obtain ⟨rfl, rfl, rfl⟩ := h
        exact .inr (.inr ⟨ob, k, hev, blt_t hlt, rfl, rfl, rfl⟩)
      · cases h
    · rename_i u σ2 hev
      rcases evOp_early he hev with ⟨_, e⟩ | ⟨_, e⟩ | ⟨_, _, e⟩ <;> cases e
    · rename_i f args hev
      rcases evOp_early he hev with ⟨_, e⟩ | ⟨_, e⟩ | ⟨_, _, e⟩ <;> cases e
theorem saturate {cb : Cb} (hn : n ≤ lim) {t' : Tmps} {σ' : AS} : ∀ (fuel : Nat) (done : Nat) (rem rd : List Row) (t : Tmps) (σ : AS) (kd : Nat → PK), drawA E cb n ops.toList fuel done rem rd t σ = some (t', σ') →
    Inv F E ops rows n γ0 σ0 done rem rd t σ kd γ listed a w →
    ∃ done1 rem1 rd1 t1 σ1 kd1, Inv F E ops rows n γ0 σ0 done1 rem1 rd1 t1 σ1 kd1 γ listed a w ∧ (∃ f0, drawA E cb n ops.toList f0 done1 rem1 rd1 t1 σ1 = some (t', σ')) ∧ ((rem1 = [] ∧ t1 = t' ∧ σ1 = σ') ∨
      ∃ r rem2 v σ2 tag t2 f, rem1.Perm (r :: rem2) ∧ (∀ q ∈ rem1, q.i ≠ r.i → ready done1 q = false) ∧ (∀ q ∈ rem1, q.early = true → ready done1 q = false) ∧ stepV E cb ops.toList r.o t1 σ1 = some (v, σ2, tag) ∧ putA n t1 r.o.dst v = some t2 ∧ (tag = 3 ∨ again E r.pm t2 σ2 rd1 = true) ∧
        drawA E cb n ops.toList f (Nat.lor done1 (Nat.shiftLeft 1 r.i)) rem2 rd1 t2 σ2 = some (t', σ')) := by
  intro fuel
  induction fuel with
  | zero => intro done rem rd t σ kd h; simp [drawA] at h
  | succ fuel ih =>
    intro done rem rd t σ kd h hI
    have h0 := h
    simp only [drawA] at h
    split at h
    · simp only [Option.some.injEq, Prod.mk.injEq] at h
      exact ⟨done, [], rd, t, σ, kd, hI, ⟨_, h0⟩, .inl ⟨rfl, h.1, h.2⟩⟩
    · rename_i x l
      split at h
      · rename_i r rem1 hpk
        obtain ⟨h1, hperm⟩ := pick_ok hpk
        simp only [Bool.and_eq_true] at h1
        obtain ⟨hre, hrdy⟩ := h1
        have hr := (hI.remIn r (hperm.mem_iff.2 (by simp))).1
        split at h
        · rename_i v σ1 tag hs
          split at h
          · rename_i t1 ht
            have hsame : SameAt r.looks t t1 := fun d hd => by
              rw [putA_get ht hn, if_neg]
              intro e
              exact hrows.self r hr hre d e hd
            rw [hrows.looksEq hr] at hsame
            have hw := sameAt_wanted hsame
            have hev := fun σ => sameAt_evOp (E := E) (σ := σ) hsame
            rcases stepV_early hrows hr hre hs with ⟨e1, rfl, rfl, rfl⟩ | ⟨e1, ⟨e2, rfl, rfl⟩ | ⟨e2, rfl, rfl⟩ | ⟨ob, k, e2, hlt, rfl, rfl, rfl⟩⟩ <;> simp only [] at h
            · exact ih _ _ _ _ _ _ h (hI.ahead hrows hn hperm hre hrdy (k := .no) ht (hw.symm.trans e1) (fun _ _ _ e => by cases e) (fun q v hq hk hm he hd => ⟨hm, he⟩) hI.rel (.refl _ _))
            · exact ih _ _ _ _ _ _ h (hI.ahead hrows hn hperm hre hrdy (k := .now v) ht ⟨hw.symm.trans e1, (hev _).symm.trans e2⟩ (fun _ _ _ e => by cases e) (fun q v hq hk hm he hd => ⟨hm, he⟩) hI.rel (.refl _ _))
            · exact ih _ _ _ _ _ _ h (hI.ahead hrows hn hperm hre hrdy (k := .read v) ht ⟨hw.symm.trans e1, by simp, v, (hev _).symm.trans e2, fun _ => rfl⟩ (fun _ _ _ e => by cases e) (fun q v hq hk hm he hd => ⟨List.mem_cons_of_mem _ hm, he⟩) hI.rel (.refl _ _))
            · split at h
              · rename_i ha
                refine ih _ _ _ _ _ _ h (hI.ahead hrows hn hperm hre hrdy (k := .new ob k σ.next) ht ⟨hw.symm.trans e1, (hev _).symm.trans (evOp_new _ e2), Nat.lt_succ_self _, hI.rel.dom _ (Nat.le_refl _), ?_⟩ (fun _ _ _ e => by cases e; exact Nat.le_refl _)
                  (fun q v hq hk hm he hd => ?_) (hI.rel.more hlt ob) (Step.more hI.rel hlt ob))
                · simp only []
                  rw [T.get_put _ _ _ _ (Nat.le_of_lt hlt), if_pos rfl]
                · obtain ⟨u, h1, h2⟩ := again_ok ha q hm (has_zero _)
                  refine ⟨hm, u, h1, fun hne => ?_⟩
                  cases hqd : q.o.dst with
                  | none => exact absurd hqd hne
                  | some d => exact (h2 d v hqd (hd d hqd)).symm
              · cases h
          · cases h
        · cases h
      · rename_i hpk
        have hno := pick_none hpk
        split at h
        · cases h
        · rename_i r rem2 hpk2
          obtain ⟨h1, hperm⟩ := pick_ok hpk2
          split at h
          · cases h
          · rename_i hall
            split at h
            · rename_i v σ2 tag hs
              split at h
              · rename_i t2 ht
                split at h
                · rename_i ha
                  have ha : tag = 3 ∨ again E r.pm t2 σ2 rd = true := by
                    rw [Bool.or_eq_true] at ha
                    exact ha.imp Nat.eq_of_beq_eq_true id
                  refine ⟨done, x :: l, rd, t, σ, kd, hI, ⟨_, h0⟩, .inr ⟨r, rem2, v, σ2, tag, t2, fuel, hperm, fun q hq hne => ?_, fun q hq he => ?_, hs, ht, ha, h⟩⟩
                  · rcases List.mem_cons.1 (hperm.mem_iff.1 hq) with rfl | hq
                    · exact absurd rfl hne
                    · have := List.all_eq_true.1 hall q hq
                      simpa using this
                  · have := hno q hq
                    rw [he] at this
                    simpa using this
                · cases h
              · cases h
            · cases h
omit hrows in
theorem count_set {listed : Array Bool} {i : Nat} (h : i < listed.size) (hf : listed.getD i true = false) : (listed.setIfInBounds i true).toList.count false + 1 = listed.toList.count false := by
  have hf' : listed.toList[i]? = some false := by
    have : listed[i]? = some listed[i] := Array.getElem?_eq_getElem h
    simp [h] at hf
    simp [this, hf]
  rw [Array.toList_setIfInBounds]
  have hi : i < listed.toList.length := by simpa using h
  rw [List.count_set hi]
  have hg : listed.toList[i] = false := by
    rw [List.getElem?_eq_getElem hi] at hf'
    exact Option.some.inj hf'
  have hpos : 0 < listed.toList.count false := List.count_pos_iff.2 (hg ▸ List.getElem_mem hi)
  rw [hg]
  simp only [beq_self_eq_true, if_true]
  rw [if_neg (by simp)]
  omega
include hE in
theorem drawn_ok (hn : n ≤ lim) {cb : Cb} (hcb : CbOk P cb) {t' : Tmps} {σ' : AS} {Q : Exit → Act → World → Prop} (hQ : ∀ γ' a' w', RelL F γ' σ' w' → ConcT γ' n t' a' → Step γ0 σ0 γ' σ' → Q .normal a' w') :
    ∀ (m : Nat) (fuel : Nat) (done : Nat) (rem rd : List Row) (t : Tmps) (σ : AS) (kd : Nat → PK) (γ : Gam) (listed : Array Bool) (a : Act) (w : World), drawA E cb n ops.toList fuel done rem rd t σ = some (t', σ') →
    Inv F E ops rows n γ0 σ0 done rem rd t σ kd γ listed a w → listed.toList.count false ≤ m → wpAny P .any ops Q m listed a w := by
  intro m
  have hnil : ∀ (fuel : Nat) (done : Nat) (rem rd : List Row) (t : Tmps) (σ : AS) (kd : Nat → PK) (γ : Gam) (listed : Array Bool) (a : Act) (w : World), drawA E cb n ops.toList fuel done rem rd t σ = some (t', σ') →
      Inv F E ops rows n γ0 σ0 done rem rd t σ kd γ listed a w → Region.ready .any ops listed = [] → Q .normal a w := by
    intro fuel done rem rd t σ kd γ listed a w h hI hnil
    have hall : ∀ i, i < ops.size → listed.getD i false = true := by
      intro i
      induction i using Nat.strongRecOn with
      | _ i ih =>
        intro hi
        cases hl : listed.getD i false with
        | true => rfl
        | false =>
          exfalso
          have hrow := hrows.all i _ (Array.getElem?_eq_getElem hi)
          have hs : i < listed.size := by rw [hI.size]; exact hi
          have hun : listed.getD i true = false := by simpa [hs] using hl
          have : i ∈ Region.ready .any ops listed := mem_ready.2 ⟨hun, _, Array.getElem?_eq_getElem hi, fun e he hb => by
            have hpm : has (mkRow ops i ops[i]).pm e.on = true := (has_predMask _ _).2 ⟨e, by simpa using he, hb, rfl⟩
            have hlt := hrows.lt _ hrow _ hpm
            have hlt : e.on < i := hlt
            exact ih e.on hlt (by omega)⟩
          rw [hnil] at this
          cases this
    obtain ⟨done1, rem1, rd1, t1, σ1, kd1, hI1, ⟨f0, hf0⟩, hcase⟩ := saturate (hrows := hrows) hn fuel done rem rd t σ kd h hI
    have hrem : rem1 = [] := by
      cases hr : rem1 with
      | nil => rfl
      | cons q l =>
        exfalso
        obtain ⟨h1, h2⟩ := hI1.remIn q (by rw [hr]; simp)
        have := hI1.sub q h1 (hall _ (hrows.idx h1))
        rw [h2] at this; cases this
    rcases hcase with ⟨_, rfl, rfl⟩ | ⟨r, rem2, _, _, _, _, _, hperm, _⟩
    · refine hQ γ a w hI1.rel ⟨hI1.tmps.size, hI1.tmps.defers, fun i v hv => hI1.tmps.get i v ?_⟩ hI1.step
      rw [T.get_mask, if_neg, hv]
      rw [Bool.not_eq_true, pmask_f]
      intro q hq hp
      have h2 := hp.2
      rw [hall _ (hrows.idx hq)] at h2
      cases h2
    · rw [hrem] at hperm
      have := hperm.length_eq
      simp at this
  induction m with
  | zero =>
    intro fuel done rem rd t σ kd γ listed a w h hI hm
    have hr : Region.ready .any ops listed = [] := by
      apply List.eq_nil_iff_forall_not_mem.2
      intro i hi
      have hf := (mem_ready.1 hi).1
      have hlt : i < listed.size := by
        rcases Nat.lt_or_ge i listed.size with h' | h'
        · exact h'
        · simp [Array.getElem?_eq_none h'] at hf
      have := count_set hlt hf
      omega
    exact ⟨hr, hnil fuel done rem rd t σ kd γ listed a w h hI hr⟩
  | succ m ih =>
    intro fuel done rem rd t σ kd γ listed a w h hI hm
    refine ⟨hnil fuel done rem rd t σ kd γ listed a w h hI, fun i hi => ?_⟩
    obtain ⟨r, hr, rfl, hun, hc⟩ := ready_row hrows hi
    have hlt : r.i < listed.size := by rw [hI.size]; exact hrows.idx hr
    have hcnt := count_set hlt hun
    have hunf := getD_false_of hI.size hun
    obtain ⟨done1, rem1, rd1, t1, σ1, kd1, hI1, ⟨f0, hf0⟩, hcase⟩ := saturate (hrows := hrows) hn fuel done rem rd t σ kd h hI
    by_cases hd : has done1 r.i = true
    · refine hI1.pendStep hE hrows hr ⟨hd, hunf⟩ hc fun γ' a' w' hI' => ?_
      exact ih f0 done1 rem1 rd1 t1 σ1 kd1 γ' _ a' w' hf0 hI' (by omega)
    · have hd : has done1 r.i = false := by simpa using hd
      have hrm := (hI1.cover r hr).resolve_left (by rw [hd]; simp)
      have hrdy : ready done1 r = true := ready_t.2 fun j hj => by
        have hlt : j < ops.size := Nat.lt_trans (hrows.lt r hr j hj) (hrows.idx hr)
        exact hI1.sub _ (hrows.all j _ (Array.getElem?_eq_getElem hlt)) (hc j hj)
      rcases hcase with ⟨rfl, rfl, rfl⟩ | ⟨q, rem2, v, σ2, tag, t2, f, hperm, hu1, hu2, hs, ht, ha, hdr⟩
      · cases hrm
      · have hrq : r.i = q.i := by
          by_cases e : r.i = q.i
          · exact e
          · have := hu1 r hrm e
            rw [hrdy] at this; cases this
        have hqr := hrows.eq hr (hI1.remIn q (hperm.mem_iff.2 (by simp))).1 hrq
        subst hqr
        exact hI1.lockStep hE hrows hn hcb hperm hc hs ht ha fun γ' a' w' hI' => ih f _ rem2 rd1 t2 σ2 kd1 γ' _ a' w' hdr hI' (by omega)
end
end Go.Proofs.YtldjgpnbkbmgoaaGreatDoor.Ev

