/-
  Regions whose order is drawn: what the evaluator has taken ahead, and the model's own order.
-/
import Derived.Test.YtmgpfkoomlgcoaaGreatEvR
namespace Go.Proofs.YtmgpfkoomlgcoaaGreat.Ev

theorem vsame_eq {a b : Value} (h : vsame a b = true) : a = b := by
  unfold vsame at h
  split at h
  · simp at h; rw [h]
  · simp at h; rw [h.1, h.2]
  · simp only [beq_iff_eq] at h
    congr 1
    exact ByteArray.ext (Array.ext' h)
  · rfl
  · rfl
  · simp only [Bool.and_eq_true] at h
    rw [Nat.eq_of_beq_eq_true h.1, Nat.eq_of_beq_eq_true h.2]
  · rfl
  · rfl
  · cases h

mutual
theorem same_eq : ∀ (a b : AV), AV.same a b = true → a = b
  | .lit a, .lit b, h => by unfold AV.same at h; rw [vsame_eq h]
  | .ptr _ _, .ptr _ _, h => by
    simp only [AV.same, Bool.and_eq_true] at h
    rw [Nat.eq_of_beq_eq_true h.1, Nat.eq_of_beq_eq_true h.2]
  | .slice _ _ _ c, .slice _ _ _ c', h => by
    simp only [AV.same, Bool.and_eq_true] at h
    obtain ⟨⟨⟨h1, h2⟩, h3⟩, h4⟩ := h
    rw [Nat.eq_of_beq_eq_true h1, Nat.eq_of_beq_eq_true h2, Nat.eq_of_beq_eq_true h3]
    cases c <;> cases c' <;> simp only [Bool.false_eq_true] at h4 <;> rw [Nat.eq_of_beq_eq_true h4]
  | .map _, .map _, h => by simp only [AV.same] at h; rw [Nat.eq_of_beq_eq_true h]
  | .iface _ b, .iface _ d, h => by
    simp only [AV.same, Bool.and_eq_true] at h
    rw [Nat.eq_of_beq_eq_true h.1, same_eq b d h.2]
  | .agg a, .agg b, h => by simp only [AV.same] at h; rw [sames_eq a b h]
  | .tuple a, .tuple b, h => by simp only [AV.same] at h; rw [sames_eq a b h]
  | .func .., _, h => by simp [AV.same] at h
  | .lit _, .ptr .., h | .lit _, .slice .., h | .lit _, .map .., h | .lit _, .func .., h | .lit _, .iface .., h | .lit _, .agg .., h | .lit _, .tuple .., h => by simp [AV.same] at h
  | .ptr .., .lit _, h | .ptr .., .slice .., h | .ptr .., .map .., h | .ptr .., .func .., h | .ptr .., .iface .., h | .ptr .., .agg .., h | .ptr .., .tuple .., h => by simp [AV.same] at h
  | .slice .., .lit _, h | .slice .., .ptr .., h | .slice .., .map .., h | .slice .., .func .., h | .slice .., .iface .., h | .slice .., .agg .., h | .slice .., .tuple .., h => by simp [AV.same] at h
  | .map .., .lit _, h | .map .., .ptr .., h | .map .., .slice .., h | .map .., .func .., h | .map .., .iface .., h | .map .., .agg .., h | .map .., .tuple .., h => by simp [AV.same] at h
  | .iface .., .lit _, h | .iface .., .ptr .., h | .iface .., .slice .., h | .iface .., .map .., h | .iface .., .func .., h | .iface .., .agg .., h | .iface .., .tuple .., h => by simp [AV.same] at h
  | .agg .., .lit _, h | .agg .., .ptr .., h | .agg .., .slice .., h | .agg .., .map .., h | .agg .., .func .., h | .agg .., .iface .., h | .agg .., .tuple .., h => by simp [AV.same] at h
  | .tuple .., .lit _, h | .tuple .., .ptr .., h | .tuple .., .slice .., h | .tuple .., .map .., h | .tuple .., .func .., h | .tuple .., .iface .., h | .tuple .., .agg .., h => by simp [AV.same] at h
theorem sames_eq : ∀ (a b : List AV), AV.sames a b = true → a = b
  | [], [], _ => rfl
  | [], _ :: _, h => by simp [AV.sames] at h
  | _ :: _, [], h => by simp [AV.sames] at h
  | a :: l, b :: m, h => by
    simp only [AV.sames, Bool.and_eq_true] at h
    rw [same_eq a b h.1, sames_eq l m h.2]
end

theorem again_ok {E : Env} {pm : Nat} {t : Tmps} {σ : AS} : ∀ {l : List Row}, again E pm t σ l = true → ∀ r ∈ l, has pm r.i = false →
    ∃ v, evOp E t σ r.o.op = some (.read v) ∧ ∀ d u, r.o.dst = some d → t.get d = some u → u = v
  | [], _, r, hr, _ => by cases hr
  | q :: l, h, r, hr, hp => by
    simp only [again, Bool.and_eq_true, Bool.or_eq_true] at h
    rcases List.mem_cons.1 hr with rfl | hr
    · have h1 := h.1.resolve_left (by rw [hp]; simp)
      split at h1
      · rename_i v d he hd
        refine ⟨v, he, fun d' u e hu => ?_⟩
        have e := Option.some.inj (hd.symm.trans e)
        subst e
        rw [hu] at h1
        exact same_eq u v h1
      · rename_i v he hd
        exact ⟨v, he, fun d u e _ => by rw [hd] at e; cases e⟩
      · cases h1
    · exact again_ok h.2 r hr hp

theorem pick_ok {p : Row → Bool} : ∀ {l : List Row} {r : Row} {m : List Row}, pickRow p l = some (r, m) → p r = true ∧ l.Perm (r :: m)
  | [], r, m, h => by simp [pickRow] at h
  | x :: l, r, m, h => by
    simp only [pickRow] at h
    split at h
    · rename_i hp
      simp only [Option.some.injEq, Prod.mk.injEq] at h
      obtain ⟨rfl, rfl⟩ := h
      exact ⟨hp, .refl _⟩
    · split at h
      · rename_i q m' hq
        simp only [Option.some.injEq, Prod.mk.injEq] at h
        obtain ⟨rfl, rfl⟩ := h
        obtain ⟨h1, h2⟩ := pick_ok hq
        exact ⟨h1, (h2.cons x).trans (.swap ..)⟩
      · cases h
theorem pick_none {p : Row → Bool} : ∀ {l : List Row}, pickRow p l = none → ∀ r ∈ l, p r = false
  | [], _, r, hr => by cases hr
  | x :: l, h, r, hr => by
    simp only [pickRow] at h
    split at h
    · cases h
    · rename_i hp
      split at h
      · cases h
      · rename_i hq
        rcases List.mem_cons.1 hr with rfl | hr
        · exact hp
        · exact pick_none hq r hr

/-- What is still to come of a row that was taken ahead. -/
inductive PK where
  | no
  | now (v : AV)
  | read (v : AV)
  | new (ob : AObj) (k : NewK) (id : Nat)
def PK.val : PK → AV
  | .no => undefV
  | .now v => v
  | .read v => v
  | .new _ k id => k.val id

def Pend (E : Env) (ops : List Oper) (rd : List Row) (t : Tmps) (σ : AS) (γ : Gam) (r : Row) : PK → Prop
  | .no => wantedA ops t r.o = some false
  | .now v => wantedA ops t r.o = some true ∧ evOp E t σ r.o.op = some (.pure v)
  | .read v => wantedA ops t r.o = some true ∧ r ∈ rd ∧ ∃ u, evOp E t σ r.o.op = some (.read u) ∧ (r.o.dst ≠ none → u = v)
  | .new ob k id => wantedA ops t r.o = some true ∧ evOp E t σ r.o.op = some (.new ob k) ∧ id < σ.next ∧ γ id = none ∧ σ.heap.get id = some ob

/-- Same temporaries where a row looks. -/
def SameAt (l : List Nat) (t t' : Tmps) : Prop := ∀ d ∈ l, t.get d = t'.get d

theorem sameAt_wanted {ops : Array Oper} {o : Oper} {t t' : Tmps} (h : SameAt (o.looksAt ops) t t') : wantedA ops.toList t o = wantedA ops.toList t' o :=
  wantedA_congr fun d hd => h d (by
    unfold Oper.looksAt
    refine List.mem_append_right _ ?_
    cases hg : o.guard with
    | none => rw [hg] at hd; cases hd
    | some g =>
      obtain ⟨j, want⟩ := g
      rw [hg] at hd
      simp only [Option.bind_some] at hd
      simp only [hd]
      simp)
theorem sameAt_evOp {E : Env} {σ : AS} {ops : Array Oper} {o : Oper} {t t' : Tmps} (h : SameAt (o.looksAt ops) t t') : evOp E t σ o.op = evOp E t' σ o.op :=
  evOp_congr o.op fun x hx => by
    cases x with
    | tmp d => exact h d (List.mem_append_left _ (List.mem_filterMap.2 ⟨.tmp d, by simpa using hx, rfl⟩))
    | _ => rfl
theorem sameAt_step {E : Env} {cb : Cb} {σ : AS} {ops : Array Oper} {o : Oper} {t t' : Tmps} (h : SameAt (o.looksAt ops) t t') : stepV E cb ops.toList o t σ = stepV E cb ops.toList o t' σ := by
  unfold stepV
  rw [sameAt_wanted h, sameAt_evOp h]

/-- A row's work is pending. -/
def Pending (done : Nat) (listed : Array Bool) (r : Row) : Prop := has done r.i = true ∧ listed.getD r.i false = false

open Classical in
/-- The slots that are pending. -/
noncomputable def pmask (rows : List Row) (done : Nat) (listed : Array Bool) (d : Nat) : Bool := decide (∃ r ∈ rows, Pending done listed r ∧ r.o.dst = some d)

theorem pmask_t {rows : List Row} {done : Nat} {listed : Array Bool} {d : Nat} : pmask rows done listed d = true ↔ ∃ r ∈ rows, Pending done listed r ∧ r.o.dst = some d := by
  classical unfold pmask; exact decide_eq_true_iff
theorem pmask_f {rows : List Row} {done : Nat} {listed : Array Bool} {d : Nat} : pmask rows done listed d = false ↔ ∀ r ∈ rows, Pending done listed r → r.o.dst ≠ some d := by
  rw [← Bool.not_eq_true, pmask_t]
  constructor
  · intro h r hr hp e; exact h ⟨r, hr, hp, e⟩
  · rintro h ⟨r, hr, hp, e⟩; exact h r hr hp e

structure Inv (F : Frz) (E : Env) (ops : Array Oper) (rows : List Row) (n : Nat) (γ0 : Gam) (σ0 : AS) (done : Nat) (rem rd : List Row) (t : Tmps) (σ : AS) (kd : Nat → PK) (γ : Gam) (listed : Array Bool) (a : Act) (w : World) : Prop where
  remIn : ∀ r ∈ rem, r ∈ rows ∧ has done r.i = false
  cover : ∀ r ∈ rows, has done r.i = true ∨ r ∈ rem
  remD : rem.Pairwise (fun r q => r.i ≠ q.i)
  down : ∀ r ∈ rows, has done r.i = true → ∀ j, has r.pm j = true → has done j = true
  sub : ∀ r ∈ rows, listed.getD r.i false = true → has done r.i = true
  size : listed.size = ops.size
  pend : ∀ r ∈ rows, Pending done listed r → r.early = true ∧ Pend E ops.toList rd t σ γ r (kd r.i) ∧ (∀ d, r.o.dst = some d → t.get d = some (kd r.i).val ∧ d < n)
  ids : ∀ r ∈ rows, ∀ q ∈ rows, Pending done listed r → Pending done listed q → ∀ ob k id ob' k', kd r.i = .new ob k id → kd q.i = .new ob' k' id → r.i = q.i
  fresh : ∀ r ∈ rows, Pending done listed r → ∀ ob k id, kd r.i = .new ob k id → σ0.next ≤ id
  rel : RelL F γ σ w
  step : Step γ0 σ0 γ σ
  tmps : ConcT γ n (T.mask (pmask rows done listed) t) a

theorem getD_set_self {listed : Array Bool} {i : Nat} (h : i < listed.size) (d : Bool) : (listed.setIfInBounds i true).getD i d = true := by
  simp [h]

section
variable {F : Frz} {P : Program} {E : Env} {ops : Array Oper} {rows : List Row} (hrows : RowsOk ops rows) {n : Nat} {γ0 : Gam} {σ0 : AS} {done : Nat} {rem rd : List Row} {t : Tmps} {σ : AS} {kd : Nat → PK} {γ : Gam} {listed : Array Bool} {a : Act} {w : World}
include hrows

theorem RowsOk.idx {r : Row} (hr : r ∈ rows) : r.i < ops.size := (Array.getElem?_eq_some_iff.1 (hrows.row r hr).1).1
theorem RowsOk.looksEq {r : Row} (hr : r ∈ rows) : r.looks = r.o.looksAt ops := by
  rw [(hrows.row r hr).2]; rfl
theorem RowsOk.earlyEq {r : Row} (hr : r ∈ rows) : r.early = early r.o.op := by
  rw [(hrows.row r hr).2]; rfl

/-- what the model may do next, told of the rows -/
theorem ready_row {i : Nat} (h : i ∈ Region.ready .any ops listed) : ∃ r ∈ rows, r.i = i ∧ listed.getD i true = false ∧ ∀ j, has r.pm j = true → listed.getD j false = true := by
  obtain ⟨h0, o, ho, hall⟩ := mem_ready.1 h
  refine ⟨_, hrows.all i o ho, rfl, h0, fun j hj => ?_⟩
  obtain ⟨e, he, hb, rfl⟩ := (has_predMask j _).1 hj
  exact hall e (by simpa using he) hb

omit hrows in
theorem getD_false_of (hs : listed.size = ops.size) {i : Nat} (h : listed.getD i true = false) : listed.getD i false = false := by
  rcases Nat.lt_or_ge i listed.size with h' | h'
  · simpa [h'] using h
  · simp [Array.getElem?_eq_none h'] at h

/-- the write of a row that is taken now leaves what is pending as it is -/
theorem keep_looks (hI : Inv F E ops rows n γ0 σ0 done rem rd t σ kd γ listed a w) {r q : Row} (hr : r ∈ rows) (hnr : has done r.i = false) (hq : q ∈ rows) (hp : Pending done listed q)
    (hre : r.early = true ∨ ∀ j, has r.pm j = true → listed.getD j false = true) (d : Nat) (hd : r.o.dst = some d) : d ∉ q.looks ∧ q.o.dst ≠ some d := by
  have hne : r.i ≠ q.i := fun e => by have := hp.1; rw [← e, hnr] at this; cases this
  have hpo := hrows.pair r hr q hq hne
  refine ⟨fun hm => ?_, fun e => ?_⟩
  · rcases hpo.looks d hd hm with h | ⟨h, h'⟩
    · have := hI.down q hq hp.1 _ h
      rw [hnr] at this; cases this
    · rcases hre with e | e
      · rw [h'] at e; cases e
      · have := e _ h
        rw [hp.2] at this; cases this
  · have h1 := (hpo.dst d hd e).2
    rw [(hI.pend q hq hp).1] at h1; cases h1

omit hrows in
theorem putA_get {t t1 : Tmps} {dst : Option Nat} {v : AV} (h : putA n t dst v = some t1) (hn : n ≤ lim) (i : Nat) : t1.get i = if dst = some i then some v else t.get i := by
  unfold putA at h
  cases dst with
  | none => simp only [Option.some.injEq] at h; subst h; simp
  | some d =>
    simp only [] at h
    split at h
    · rename_i hlt
      have := blt_t hlt
      simp only [Option.some.injEq] at h
      subst h
      rw [T.get_put _ _ _ _ (by omega)]
      by_cases e : i = d
      · subst e; simp
      · rw [if_neg e, if_neg (fun h => e (Option.some.inj h).symm)]
    · cases h
omit hrows in
theorem putA_lt {t t1 : Tmps} {d : Nat} {v : AV} (h : putA n t (some d) v = some t1) : d < n := by
  unfold putA at h
  simp only [] at h
  split at h
  · rename_i hlt; exact blt_t hlt
  · cases h

theorem Pend.keep {q : Row} (hq : q ∈ rows) {rd1 : List Row} {t1 : Tmps} {σ1 : AS} {γ1 : Gam} {k : PK} (hsame : SameAt q.looks t t1) (hrd : ∀ v, k = .read v → q ∈ rd → q ∈ rd1 ∧ ∃ u, evOp E t1 σ1 q.o.op = some (.read u) ∧ (q.o.dst ≠ none → u = v))
    (hσ : Step γ σ γ1 σ1) (h : Pend E ops.toList rd t σ γ q k) : Pend E ops.toList rd1 t1 σ1 γ1 q k := by
  rw [hrows.looksEq hq] at hsame
  have hw := sameAt_wanted hsame
  cases k with
  | no => exact hw.symm.trans h
  | now v => exact ⟨hw ▸ h.1, evOp_pure σ1 (sameAt_evOp (E := E) (σ := σ) hsame ▸ h.2)⟩
  | read v =>
    obtain ⟨h1, h2, u, h3, h4⟩ := h
    obtain ⟨e1, e2⟩ := hrd v rfl h2
    exact ⟨hw ▸ h1, e1, e2⟩
  | new ob k id =>
    obtain ⟨h1, h2, h3, h4, h5⟩ := h
    exact ⟨hw ▸ h1, evOp_new σ1 (sameAt_evOp (E := E) (σ := σ) hsame ▸ h2), Nat.lt_of_lt_of_le h3 hσ.le, hσ.new id h3 h4, (hσ.same id h3 h4).trans h5⟩

/-- The evaluator takes a row ahead; the model does nothing yet. -/
theorem Inv.ahead (hI : Inv F E ops rows n γ0 σ0 done rem rd t σ kd γ listed a w) (hn : n ≤ lim) {r : Row} {rem1 : List Row} (hp : rem.Perm (r :: rem1)) (hre : r.early = true) (hrdy : ready done r = true) {k : PK} {t1 : Tmps} (ht : putA n t r.o.dst k.val = some t1) {rd1 : List Row} {σ1 : AS}
    (hk : Pend E ops.toList rd1 t1 σ1 γ r k) (hnew : ∀ ob x id, k = .new ob x id → σ.next ≤ id)
    (hrd : ∀ q v, q ∈ rows → kd q.i = .read v → q ∈ rd → (∃ u, evOp E t1 σ q.o.op = some (.read u) ∧ (q.o.dst ≠ none → u = v)) → (∀ d, q.o.dst = some d → t1.get d = some v) → q ∈ rd1 ∧ ∃ u, evOp E t1 σ1 q.o.op = some (.read u) ∧ (q.o.dst ≠ none → u = v))
    (hR : RelL F γ σ1 w) (hS : Step γ σ γ σ1) :
    Inv F E ops rows n γ0 σ0 (Nat.lor done (Nat.shiftLeft 1 r.i)) rem1 rd1 t1 σ1 (fun j => if j = r.i then k else kd j) γ listed a w := by
  have hrm : r ∈ rem := hp.mem_iff.2 (by simp)
  obtain ⟨hr, hnr⟩ := hI.remIn r hrm
  have hD : (r :: rem1).Pairwise (fun r q => r.i ≠ q.i) := (hp.pairwise_iff (fun h => Ne.symm h)).1 hI.remD
  rw [List.pairwise_cons] at hD
  have hdone : ∀ j, has (Nat.lor done (Nat.shiftLeft 1 r.i)) j = true ↔ has done j = true ∨ j = r.i := fun j => by rw [has_lor]; simp
  have hlr : listed.getD r.i false = false := by
    cases h : listed.getD r.i false with
    | false => rfl
    | true => have := hI.sub r hr h; rw [hnr] at this; cases this
  have hpend : ∀ q ∈ rows, Pending (Nat.lor done (Nat.shiftLeft 1 r.i)) listed q → (q = r ∨ (q.i ≠ r.i ∧ Pending done listed q)) := fun q hq h => by
    by_cases e : q.i = r.i
    · exact .inl (hrows.eq hq hr e)
    · exact .inr ⟨e, ((hdone q.i).1 h.1).resolve_right e, h.2⟩
  have hkeep := fun (q : Row) (hq : q ∈ rows) (hq' : Pending done listed q) => keep_looks hrows hI hr hnr hq hq' (.inl hre)
  have hget := putA_get ht hn
  refine ⟨fun q hq => ?_, fun q hq => ?_, hD.2, fun q hq h j hj => ?_, fun q hq h => ?_, hI.size, fun q hq h => ?_, fun q hq q' hq' h h' ob x id ob' x' e e' => ?_, fun q hq h ob x id e => ?_, hR, hI.step.trans hS, ?_⟩
  · have hq' : q ∈ rem := hp.mem_iff.2 (by simp [hq])
    obtain ⟨h1, h2⟩ := hI.remIn q hq'
    refine ⟨h1, ?_⟩
    rw [has_lor, h2]
    simp [Ne.symm (hD.1 q hq)]
  · rcases hI.cover q hq with h | h
    · exact .inl ((hdone _).2 (.inl h))
    · rcases List.mem_cons.1 (hp.mem_iff.1 h) with rfl | h
      · exact .inl ((hdone _).2 (.inr rfl))
      · exact .inr h
  · rcases (hdone _).1 h with h | h
    · exact (hdone _).2 (.inl (hI.down q hq h j hj))
    · have e := hrows.eq hq hr h
      subst e
      exact (hdone _).2 (.inl (ready_t.1 hrdy j hj))
  · exact (hdone _).2 (.inl (hI.sub q hq h))
  · rcases hpend q hq h with rfl | ⟨hne, h'⟩
    · refine ⟨hre, ?_, fun d hd => ?_⟩
      · rw [if_pos rfl]; exact hk
      · rw [if_pos rfl, hget, if_pos hd]
        refine ⟨rfl, ?_⟩
        rw [hd] at ht
        exact putA_lt ht
    · obtain ⟨h1, h2, h3⟩ := hI.pend q hq h'
      rw [if_neg hne]
      have hsame : SameAt q.looks t t1 := fun d hd => by
        rw [hget, if_neg]
        intro e
        exact (hkeep q hq h' d e).1 hd
      have hslot : ∀ d, q.o.dst = some d → t1.get d = t.get d := fun d hd => by
        rw [hget, if_neg]
        intro e
        exact (hkeep q hq h' d e).2 hd
      refine ⟨h1, Pend.keep hrows hq hsame (fun v ev hm => ?_) hS h2, fun d hd => ?_⟩
      · have h2' := h2
        rw [ev] at h2'
        obtain ⟨_, _, u, h4, h5⟩ := h2'
        have hs := hsame
        rw [hrows.looksEq hq] at hs
        rw [sameAt_evOp hs] at h4
        exact hrd q v hq ev hm ⟨u, h4, h5⟩ fun d hd => by rw [hslot d hd, (h3 d hd).1, ev]; rfl
      · rw [hslot d hd]; exact h3 d hd
  · rcases hpend q hq h with rfl | ⟨hne, h1⟩ <;> rcases hpend q' hq' h' with rfl | ⟨hne', h1'⟩
    · rfl
    · rw [if_pos rfl] at e
      rw [if_neg hne'] at e'
      have h2 := hnew ob x id e
      have h3 := (hI.pend q' hq' h1').2.1
      rw [e'] at h3
      have := h3.2.2.1
      omega
    · rw [if_pos rfl] at e'
      rw [if_neg hne] at e
      have h2 := hnew _ _ _ e'
      have h3 := (hI.pend q hq h1).2.1
      rw [e] at h3
      have := h3.2.2.1
      omega
    · rw [if_neg hne] at e
      rw [if_neg hne'] at e'
      exact hI.ids q hq q' hq' h1 h1' ob x id ob' x' e e'
  · rcases hpend q hq h with rfl | ⟨hne, h1⟩
    · rw [if_pos rfl] at e
      have := hnew _ _ _ e
      have := hI.step.le
      omega
    · rw [if_neg hne] at e
      exact hI.fresh q hq h1 ob x id e
  · refine ⟨hI.tmps.size, hI.tmps.defers, fun i v hv => ?_⟩
    rw [T.get_mask] at hv
    split at hv
    · cases hv
    · rename_i hm
      have hm := pmask_f.1 (Bool.not_eq_true _ ▸ hm : _ = false)
      have hri : r.o.dst ≠ some i := hm r hr ⟨(hdone _).2 (.inr rfl), hlr⟩
      rw [hget, if_neg hri] at hv
      refine hI.tmps.get i v ?_
      rw [T.get_mask, if_neg, hv]
      rw [Bool.not_eq_true, pmask_f]
      exact fun q hq h => hm q hq ⟨(hdone _).2 (.inl h.1), h.2⟩

end
end Go.Proofs.YtmgpfkoomlgcoaaGreat.Ev
