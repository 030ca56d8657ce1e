/-
  What turns the heap: stores, maps, appends.
  What turns the heap: every operation of the evaluator that does is the model's.
-/
import Derived.Test.YtmgpfkoomlgcoaaGreatEvJ
namespace Go.Proofs.YtmgpfkoomlgcoaaGreat.Ev

theorem turn_row (w : World) (b : Nat) (cs : Array Value) : Turn b w (w.setRow b cs) :=
  ⟨rfl, rfl, rfl, by simp [World.setRow], fun c h => setRow_other w b c cs h⟩

theorem set_cells {P : Program} {γ : Gam} {w : World} {l vs : List AV} {elem : TypeId} {p : Place} {ys : List Value} {off : Nat} (h : ObjRel γ (.cells l elem) p w) (hl : off + vs.length ≤ l.length)
    (hv : Concs γ vs ys) (h1 : vs.all AV.one = true) :
    ∃ w', (storeCells ⟨p.block, p.base + off, none⟩ ys).run P w = .ok () w' ∧ ObjRel γ (.cells (setFrom l off vs) elem) p w' ∧ Turn p.block w w' := by
  obtain ⟨c, hb, hs, hlen, hc⟩ := h
  have hyl := concs_length hv
  have hone : ∀ y ∈ ys, y.oneCell' = true := by
    intro y hy
    obtain ⟨i, hi, e⟩ := List.mem_iff_getElem.1 hy
    have hvi : i < vs.length := by omega
    obtain ⟨x, hx, hcx⟩ := concs_get hv i vs[i] (by simp [hvi])
    rw [List.getElem?_eq_getElem hi, e] at hx
    cases hx
    exact conc_one hcx (List.all_eq_true.1 h1 _ (List.getElem_mem hvi))
  have hrun := run_storeCells_at (P := P) p.block (p.base + off) elem ys 0 c w hb (by omega) hone
  refine ⟨_, hrun, ?_, turn_row w p.block _⟩
  rw [Nat.add_zero]
  have hto : (c.toList.take (p.base + off) ++ ys ++ c.toList.drop (p.base + off + ys.length)) = setFrom c.toList (p.base + off) ys := rfl
  rw [hto]
  have hcl : c.toList.length = c.size := by simp
  refine ⟨_, setRow_heap w p.block c _ elem _ hb, ?_, ?_, ?_⟩
  · simp only [List.size_toArray]
    rw [setFrom_length _ _ _ (by rw [hcl]; omega), hcl, hs]
  · rw [setFrom_length _ _ _ hl]; exact hlen
  · intro i v hiv
    rw [setFrom_get _ _ _ _ hl] at hiv
    simp only [List.getElem?_toArray]
    rw [setFrom_get _ _ _ _ (by rw [hcl]; omega)]
    by_cases hin : off ≤ i ∧ i < off + vs.length
    · rw [if_pos hin] at hiv
      rw [if_pos (by omega)]
      obtain ⟨x, hx, hcx⟩ := concs_get hv _ v hiv
      exact ⟨x, by rw [show p.base + i - (p.base + off) = i - off by omega]; exact hx, hcx⟩
    · rw [if_neg hin] at hiv
      rw [if_neg (by omega)]
      obtain ⟨x, hx, hcx⟩ := hc i v hiv
      exact ⟨x, by simpa using hx, hcx⟩

/-- set_cells in the whole. -/
theorem RelL.store {F : Frz} {P : Program} {γ : Gam} {σ : AS} {w : World} (h : RelL F γ σ w) {o off : Nat} {a : Addr} {l vs : List AV} {elem : TypeId} {ys : List Value} (hg : σ.heap.get o = some (.cells l elem)) (ha : atP γ o off a)
    (hl : off + vs.length ≤ l.length) (hv : Concs γ vs ys) (h1 : vs.all AV.one = true) :
    ∃ w', (storeCells a ys).run P w = .ok () w' ∧ RelL F γ { σ with heap := σ.heap.put o (.cells (setFrom l off vs) elem) } w' ∧ Step γ σ γ { σ with heap := σ.heap.put o (.cells (setFrom l off vs) elem) } := by
  obtain ⟨p, hp, hob⟩ := h.find hg (by simp) ha.ne
  obtain rfl := ha.at hp
  obtain ⟨w', h2, h3, h4⟩ := set_cells (P := P) hob hl hv h1
  exact ⟨w', h2, h.set hp (by simp) h3 h4, Step.set h _ hp⟩

/-- a map gets other entries -/
theorem RelL.entries {F : Frz} {P : Program} {γ : Gam} {σ : AS} {w : World} (h : RelL F γ σ w) {o r : Nat} {es fs : List (AV × AV × Nat)} {clock clock' : Nat} (hg : σ.heap.get o = some (.map es clock)) (hr : mapP γ o r) :
    ∃ es' : Array MapEntry, w.heap[r]? = some (.map es' clock) ∧ EntRel γ es es'.toList ∧ ∀ fs' : Array MapEntry, EntRel γ fs fs'.toList →
      (Go.setObj r (.map fs' clock')).run P w = .ok () { w with heap := w.heap.setIfInBounds r (.map fs' clock') } ∧ RelL F γ { σ with heap := σ.heap.put o (.map fs clock') } { w with heap := w.heap.setIfInBounds r (.map fs' clock') } ∧
      Step γ σ γ { σ with heap := σ.heap.put o (.map fs clock') } := by
  obtain ⟨p, hp, es', hb, he⟩ := h.find hg (by simp) hr.ne
  obtain rfl := hr.at hp
  refine ⟨es', hb, he, fun fs' hf => ⟨?_, h.set hp (by simp) ⟨fs', ?_, hf⟩ ?_, Step.set h _ hp⟩⟩
  · simp [Go.setObj, Sem.run, hb]
  · have := (Array.getElem?_eq_some_iff.1 hb).1
    simp [this]
  · exact turn_set w p.block _
end Go.Proofs.YtmgpfkoomlgcoaaGreat.Ev

namespace Go.Proofs.YtmgpfkoomlgcoaaGreat.Ev

theorem findA_get {d : TypeDesc} {k : AV} : ∀ (es : List (AV × AV × Nat)) (i j : Nat) (v : AV), findA d k es i = some (some (j, v)) → i ≤ j ∧ ∃ k' b, es[j - i]? = some (k', v, b) ∧ keyEq d k k' = some true
  | [], i, j, v, h => by simp [findA] at h
  | (k', u, b) :: es, i, j, v, h => by
    simp only [findA] at h
    split at h
    · rename_i hk
      simp only [Option.some.injEq, Prod.mk.injEq] at h
      obtain ⟨rfl, rfl⟩ := h
      exact ⟨Nat.le_refl _, k', b, by simp, hk⟩
    · obtain ⟨h1, k2, b2, h2, h3⟩ := findA_get es (i + 1) j v h
      refine ⟨by omega, k2, b2, ?_, h3⟩
      rw [show j - i = (j - (i + 1)) + 1 by omega]
      simpa using h2
    · cases h

theorem bytes_eq {a b : ByteArray} (h : (a == b) = true) : a = b := by
  cases a; cases b
  simp only [BEq.beq] at h
  unfold ByteArray.beq at h
  simp at h
  rw [h]
theorem bytes_beq (a : ByteArray) : (a == a) = true := by
  cases a
  simp only [BEq.beq]
  unfold ByteArray.beq
  simp

theorem sameBits_symm_scalar {a b : Value} (h : scalarEq a b = some true) (n : Nat) : Instr.sameBits n b a = true := by
  unfold scalarEq at h
  split at h
  · simp only [Option.some.injEq, beq_iff_eq] at h; subst h; unfold Instr.sameBits; simp
  · split at h
    · rename_i hk
      simp only [Option.some.injEq, beq_iff_eq] at h; subst hk h; unfold Instr.sameBits; simp
    · cases h
  · rename_i a b
    simp only [Option.some.injEq, beq_iff_eq] at h
    have : a = b := by
      cases a; cases b
      congr 1
      exact Array.toList_inj.1 h
    subst this
    unfold Instr.sameBits
    exact bytes_beq a
  · cases h

theorem flat_bits : ∀ {xs ys : List Value} (_ : flatEq (xs.map .lit) (ys.map .lit) = some true) (n : Nat), ys.length = xs.length ∧ ((ys.zip xs).all fun (x, y) => Instr.sameBits n x y) = true
  | [], [], _, _ => by simp
  | [], _ :: _, h, _ => by simp [flatEq] at h
  | _ :: _, [], h, _ => by simp [flatEq] at h
  | x :: xs, y :: ys, h, n => by
    simp only [List.map_cons, flatEq] at h
    split at h
    · rename_i p q hp hq
      simp only [Option.some.injEq, Bool.and_eq_true] at h
      obtain ⟨rfl, rfl⟩ := h
      obtain ⟨h1, h2⟩ := flat_bits hq n
      exact ⟨by simp [h1], by simp only [List.zip_cons_cons, List.all_cons, Bool.and_eq_true]; exact ⟨sameBits_symm_scalar hp n, h2⟩⟩
    · cases h

/-- keys that are the same have the same bits -/
theorem key_bits {γ : Gam} {d : TypeDesc} {a b : AV} {x y : Value} (h : keyEq d a b = some true) (hx : Conc γ a x) (hy : Conc γ b y) : Instr.sameBits 10000 y x = true := by
  have hmax : (10000 : Nat) = 9999 + 1 := rfl
  rw [hmax]
  generalize 9999 = n
  unfold keyEq at h
  split at h
  · rw [conc_lit_iff] at hx hy; subst hx hy
    split at h
    · rename_i hk; subst hk
      simp only [Option.some.injEq, beq_iff_eq] at h; subst h
      unfold Instr.sameBits; simp
    · cases h
  · rw [conc_lit_iff] at hx hy; subst hx hy
    simp only [Option.some.injEq] at h
    have h := bytes_eq h; subst h
    unfold Instr.sameBits; exact bytes_beq _
  · rw [conc_lit_iff] at hx hy; subst hx hy
    simp only [Option.some.injEq, beq_iff_eq] at h; subst h
    unfold Instr.sameBits; simp
  · obtain ⟨⟨xs, rfl⟩, ys, rfl⟩ := flatEq_lits h
    simp only [Conc] at hx hy
    obtain ⟨p, rfl, hp⟩ := hx
    obtain ⟨q, rfl, hq⟩ := hy
    have e1 := concs_lits_eq hp
    have e2 := concs_lits_eq hq
    obtain ⟨h1, h2⟩ := flat_bits h n
    unfold Instr.sameBits
    simp only [Bool.and_eq_true, beq_iff_eq]
    rw [e1, e2]
    exact ⟨by rw [← Array.length_toList, ← Array.length_toList, e1, e2]; exact h1, h2⟩
  · cases h

theorem entRel_setAt {γ : Gam} {k v : AV} {k' v' : Value} (hk : Conc γ k k') (hv : Conc γ v v') : ∀ {es : List (AV × AV × Nat)} {es' : List MapEntry} (i : Nat) {e : AV × AV × Nat}, EntRel γ es es' → es[i]? = some e →
    EntRel γ (setAt es i (k, v, e.2.2)) (es'.modify i fun e => { e with key := k', val := v' })
  | [], _, i, e, _, h => by simp at h
  | (k0, v0, b0) :: es, _, i, e, h, he => by
    simp only [EntRel] at h
    obtain ⟨k1, v1, rest, rfl, h1, h2, h⟩ := h
    cases i with
    | zero =>
      simp only [List.getElem?_cons_zero, Option.some.injEq] at he
      subst he
      simp only [setAt, EntRel, List.modify_zero_cons]
      exact ⟨k', v', rest, rfl, hk, hv, h⟩
    | succ i =>
      simp only [setAt, EntRel, List.modify_succ_cons]
      exact ⟨k1, v1, _, rfl, h1, h2, entRel_setAt hk hv i h (by simpa using he)⟩

theorem entRel_erase {γ : Gam} : ∀ {es : List (AV × AV × Nat)} {es' : List MapEntry} (i : Nat), EntRel γ es es' → EntRel γ (es.eraseIdx i) (es'.eraseIdx i)
  | [], _, i, h => by simp only [EntRel] at h; subst h; simp [EntRel]
  | (k0, v0, b0) :: es, _, i, h => by
    simp only [EntRel] at h
    obtain ⟨k1, v1, rest, rfl, h1, h2, h⟩ := h
    cases i with
    | zero => simpa using h
    | succ i => simp only [List.eraseIdx_cons_succ, EntRel]; exact ⟨k1, v1, _, rfl, h1, h2, entRel_erase i h⟩

theorem entRel_filter {γ : Gam} (p : Nat → Bool) : ∀ {es : List (AV × AV × Nat)} {es' : List MapEntry}, EntRel γ es es' → EntRel γ (es.filter fun e => p e.2.2) (es'.filter fun e => p e.born)
  | [], _, h => by simp only [EntRel] at h; subst h; simp [EntRel]
  | (k0, v0, b0) :: es, _, h => by
    simp only [EntRel] at h
    obtain ⟨k1, v1, rest, rfl, h1, h2, h⟩ := h
    simp only [List.filter_cons]
    cases hp : p b0 with
    | true => simp only [if_true, EntRel]; exact ⟨k1, v1, _, rfl, h1, h2, entRel_filter p h⟩
    | false => simpa using entRel_filter p h
theorem entRel_all {γ : Gam} (p : Nat → Bool) : ∀ {es : List (AV × AV × Nat)} {es' : List MapEntry}, EntRel γ es es' → (es'.all fun e => p e.born) = es.all fun e => p e.2.2
  | [], _, h => by simp only [EntRel] at h; subst h; simp
  | (k0, v0, b0) :: es, _, h => by
    simp only [EntRel] at h
    obtain ⟨k1, v1, rest, rfl, h1, h2, h⟩ := h
    simp only [List.all_cons, entRel_all p h]

section
variable {F : Frz} {P : Program} {E : Env} (hE : EnvOk P E) {γ : Gam} {σ : AS} {w : World} {t : Tmps} {ρ : Operand → Value}
include hE

theorem store_ok (hR : RelL F γ σ w) {ty : TypeId} {a v : AV} {σ' : AS} (h : storeA E σ ty a v = some σ') {a' v' : Value} (ha : Conc γ a a') (hv : Conc γ v v') :
    ∃ w', (Instr.storeAt ty a' v').run P w = .ok () w' ∧ RelL F γ σ' w' ∧ Step γ σ γ σ' := by
  unfold storeA at h
  split at h
  · rename_i o off r hr
    split at h
    · rename_i l elem hg
      split at h
      · rename_i hb
        simp only [Bool.and_eq_true] at hb
        obtain ⟨⟨hb1, hb2⟩, hb3⟩ := hb
        have hb1 := Nat.eq_of_beq_eq_true hb1
        have hb3 := Nat.le_of_ble_eq_true hb3
        simp only [Option.some.injEq] at h; subst h
        simp only [Conc] at ha
        obtain ⟨ad, rfl, hat⟩ := ha
        have hvc := conc_cells hv
        have hvl : v'.cells.size = v.cells.length := by simpa using concs_length hvc
        obtain ⟨w', h1, h2, h3⟩ := RelL.store (P := P) hR hg hat (by rw [hb1]; exact hb3) hvc hb2
        refine ⟨w', ?_, h2, h3⟩
        unfold Instr.storeAt storeVar
        have hne : ¬ (v'.cells.size ≠ r.info.size) := by omega
        simp only [Instr.sureAddr, Sem.run_bind, Sem.run_pure, Result.andThen_ok, run_size hE hr w, if_neg hne, h1]
      · cases h
    · cases h
  · cases h

theorem update_ok (hR : RelL F γ σ w) {ty : TypeId} {m k v : AV} {σ' : AS} (h : updateA E σ ty m k v = some σ') {m' k' v' : Value} (hm : Conc γ m m') (hk : Conc γ k k') (hv : Conc γ v v') :
    ∃ w', (Instr.mapUpdate ty m' k' v').run P w = .ok () w' ∧ RelL F γ σ' w' ∧ Step γ σ γ σ' := by
  unfold updateA at h
  cases hr : E.ty ty with
  | none => rw [hr] at h; cases h
  | some r =>
    rw [hr] at h
    simp only [] at h
    split at h
    · rename_i kt et o hd
      split at h
      · rename_i d es clock hkt hg
        simp only [Conc] at hm
        obtain ⟨b, rfl, hb⟩ := hm
        unfold Instr.mapUpdate
        simp only [Sem.run_bind, run_und hE hr w, Result.andThen_ok, hd]
        split at h
        · rename_i i u hf
          simp only [Option.some.injEq] at h; subst h
          obtain ⟨_, k0, b0, hi, hke⟩ := findA_get es 0 i u hf
          rw [Nat.sub_zero] at hi
          obtain ⟨es', hw, he, hset⟩ := RelL.entries (P := P) (fs := setAt es i (k, v, b0)) (clock' := clock) hR hg hb
          obtain ⟨r', h1, h2⟩ := findKey_ok hE (w := w) hkt hk he hf
          cases r' with
          | none => exact h2.elim
          | some r' =>
            obtain ⟨j, u'⟩ := r'
            obtain ⟨rfl, _⟩ := h2
            obtain ⟨k1, v1, hi', hk1, _⟩ := entRel_get he i _ hi
            have hi'' : es'[i]? = some ⟨k1, v1, b0⟩ := by simpa using hi'
            have hb' := key_bits hke hk hk1
            have hg1 : (getObj b).run P w = .ok (.map es' clock) w := by simp [getObj, Sem.run, hw]
            obtain ⟨s1, s2, s3⟩ := hset (es'.modify i fun e => { e with key := k', val := v' }) (by rw [Array.toList_modify]; exact entRel_setAt hk hv i he hi)
            have hbo : bornAt es i = b0 := by unfold bornAt; rw [hi]
            refine ⟨_, ?_, by rw [hbo]; exact s2, by rw [hbo]; exact s3⟩
            simp only [hg1, Sem.run_bind, Result.andThen_ok, checkKey_ok hE (w := w) hkt hk, h1, hi'', Option.map_some, Option.getD_some, Sem.run_bind, Instr.keyThatStays, hb', if_true, Sem.run_pure, s1]
        · rename_i hf
          simp only [Option.some.injEq] at h; subst h
          obtain ⟨es', hw, he, hset⟩ := RelL.entries (P := P) (fs := es ++ [(k, v, clock)]) (clock' := clock + 1) hR hg hb
          obtain ⟨r', h1, h2⟩ := findKey_ok hE (w := w) hkt hk he hf
          cases r' with
          | some r' => exact h2.elim
          | none =>
            have hg1 : (getObj b).run P w = .ok (.map es' clock) w := by simp [getObj, Sem.run, hw]
            obtain ⟨s1, s2, s3⟩ := hset (es'.push { key := k', val := v', born := clock }) (by rw [Array.toList_push]; exact entRel_append he (by simp only [EntRel]; exact ⟨k', v', [], rfl, hk, hv, rfl⟩))
            refine ⟨_, ?_, s2, s3⟩
            simp only [hg1, Sem.run_bind, Result.andThen_ok, checkKey_ok hE (w := w) hkt hk, h1, s1]
        · cases h
      · cases h
    · cases h

theorem delete_ok (hR : RelL F γ σ w) {ty : TypeId} {m k : AV} {σ' : AS} (h : deleteA E σ ty m k = some σ') {m' k' : Value} (hm : Conc γ m m') (hk : Conc γ k k') {ts : Array TypeId} {tt : TypeId} {ys : Array Value}
    (h0 : ts[0]? = some ty) (h1 : ys[0]? = some m') (h2 : ys[1]? = some k') :
    ∃ w', (Builtin.delete_ ts tt ys).run P w = .ok (.tuple #[]) w' ∧ RelL F γ σ' w' ∧ Step γ σ γ σ' := by
  unfold deleteA at h
  cases hr : E.ty ty with
  | none => rw [hr] at h; cases h
  | some r =>
    rw [hr] at h
    simp only [] at h
    split at h
    · rename_i kt et o hd
      split at h
      · rename_i d es clock hkt hg
        simp only [Conc] at hm
        obtain ⟨b, rfl, hb⟩ := hm
        unfold Builtin.delete_
        simp only [h0, h1, h2, Sem.run_bind, run_und hE hr w, Result.andThen_ok, hd]
        split at h
        · rename_i i u hf
          simp only [Option.some.injEq] at h; subst h
          obtain ⟨es', hw, he, hset⟩ := RelL.entries (P := P) (fs := es.eraseIdx i) (clock' := clock) hR hg hb
          obtain ⟨r', h1, h2⟩ := findKey_ok hE (w := w) hkt hk he hf
          cases r' with
          | none => exact h2.elim
          | some r' =>
            obtain ⟨j, u'⟩ := r'
            obtain ⟨rfl, _⟩ := h2
            have hg1 : (getObj b).run P w = .ok (.map es' clock) w := by simp [getObj, Sem.run, hw]
            obtain ⟨s1, s2, s3⟩ := hset (es'.eraseIdxIfInBounds i) (by
              have : (es'.eraseIdxIfInBounds i).toList = es'.toList.eraseIdx i := by simp
              rw [this]; exact entRel_erase i he)
            refine ⟨_, ?_, s2, s3⟩
            simp only [hg1, Sem.run_bind, Result.andThen_ok, checkKey_ok hE (w := w) hkt hk, h1, s1, Sem.run_pure]
        · rename_i hf
          simp only [Option.some.injEq] at h; subst h
          obtain ⟨es', hw, he, hset⟩ := RelL.entries (P := P) (fs := es) (clock' := clock) hR hg hb
          obtain ⟨r', h1, h2⟩ := findKey_ok hE (w := w) hkt hk he hf
          cases r' with
          | some r' => exact h2.elim
          | none =>
            have hg1 : (getObj b).run P w = .ok (.map es' clock) w := by simp [getObj, Sem.run, hw]
            obtain ⟨s1, s2, s3⟩ := hset es' he
            refine ⟨_, ?_, s2, s3⟩
            simp only [hg1, Sem.run_bind, Result.andThen_ok, checkKey_ok hE (w := w) hkt hk, h1, s1, Sem.run_pure]
        · cases h
      · cases h
    · cases h

end
end Go.Proofs.YtmgpfkoomlgcoaaGreat.Ev
