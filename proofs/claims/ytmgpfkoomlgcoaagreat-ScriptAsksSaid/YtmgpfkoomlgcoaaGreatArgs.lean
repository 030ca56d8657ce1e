/-
  Arguments opened: a slice of whatever elements, as a list. Conditions: none.
-/
import Derived.Test.YtmgpfkoomlgcoaaGreatRows
import Derived.Test.YtmgpfkoomlgcoaaGreatLib
import Derived.ProofKit
import Derived.Deep.Slices
import Derived.Deep.Fields
import Derived.ChangeSame
namespace Go.Proofs.YtmgpfkoomlgcoaaGreat
open Go.RowKit Go.ChangeShapes Go.WideShapes Go.Deep

theorem lay_join {α : Type} {k : Nat} {enc : α → List Value} (hk : ∀ a, (enc a).length = k) {w : World} {b : Nat} : ∀ (l : List α) (off : Nat), (∀ i (hi : i < l.length), Lay w b (off + i * k) (enc l[i])) → Lay w b off (l.flatMap enc)
  | [], off, _ => fun j u hu => by simp at hu
  | a :: l, off, h => fun j u hu => by
    rw [List.flatMap_cons] at hu
    by_cases hj : j < (enc a).length
    · rw [List.getElem?_append_left hj] at hu
      have := h 0 (by simp) j u hu
      simpa using this
    · rw [List.getElem?_append_right (by omega)] at hu
      have h2 : Lay w b (off + k) (l.flatMap enc) := lay_join hk l (off + k) fun i hi => by
        have := h (i + 1) (by simpa using hi)
        rw [show off + k + i * k = off + (i + 1) * k by rw [Nat.add_mul]; omega]
        simpa using this
      have := h2 _ u hu
      rw [hk] at this
      rwa [show off + k + (j - k) = off + j by have := hk a; omega] at this

theorem add_form {a : Addr} {w : World} {j : Nat} {u : Value} (h : w.cell? a = some u) : a.add j = ⟨a.block, a.off + j, none⟩ ∧ a.spot = none := by
  obtain ⟨b, off, sp⟩ := a
  have hs : sp = none := by
    cases sp with
    | none => rfl
    | some s =>
      unfold World.cell? at h
      split at h <;> simp at h
  subst hs
  refine ⟨?_, rfl⟩
  unfold Addr.add
  split <;> simp_all

section
variable {H : Type} {enc : TypeId × Value → H} {P : Program} {w : World} {base : Nat} {spare : Nat → Bool} {held : Bool}
theorem open_sl {α : Type} [Inhabited α] {enc' : α → List Value} {k : Nat} (hkp : 0 < k) (hk : ∀ a, (enc' a).length = k) (Pa : α → Prop) {t e : TypeId} {r : Reach} {b0 : Nat} {v : Value} {d : DataW H} {ps : List MemPlace} (ht : P.underlying t = some (.slice e)) (hC : P.cellsOf e = k)
    (hel : ∀ n cs' x, DataW.trod enc P w base spare held n e cs' = some x → cs'.length = k → ∃ a, cs' = enc' a ∧ Pa a)
    (hv : Value.okWide P w r b0 t v) (h : DataW.Trod enc P w base spare held t v d ps) : ∃ l : List α, Sl enc' w w.heap.size v l ∧ ∀ a ∈ l, Pa a := by
  obtain ⟨a0, len0, cap0, rfl⟩ := okWide_slice ht hv
  obtain ⟨fuel, hf⟩ := h
  rcases open_slice ht hf with ⟨hcs, _⟩ | ⟨a, len, cap, m, n, D, Pl, hcs, hb, hl, hm, hmm, _, hi⟩
  · simp only [Value.cells, List.cons.injEq, Value.slice.injEq, and_true] at hcs
    obtain ⟨rfl, rfl, rfl⟩ := hcs
    exact ⟨[], Sl.nil, by simp⟩
  · simp only [Value.cells, List.cons.injEq, Value.slice.injEq, and_true] at hcs
    obtain ⟨rfl, rfl, rfl⟩ := hcs
    have hlm : len0 ≤ m := by rw [hmm]; split <;> omega
    obtain ⟨f, hf⟩ := choose_lt (n := len0) (p := fun i x => w.cells? base (a.add (i * k)) k = some (enc' x) ∧ Pa x) (fun i hil => by
      obtain ⟨cs', hc, htr⟩ := hi i (by omega)
      rw [hC] at hc
      obtain ⟨_, hcl, _⟩ := World.cells?_some hc
      obtain ⟨x, rfl, hx⟩ := hel _ _ _ htr hcl
      exact ⟨x, hc, hx⟩)
    refine ⟨(List.range len0).map f, ⟨some a, cap0, by simp, by simpa using hl, hm, fun hp => ?_⟩, fun x hx => ?_⟩
    · have hlen : 0 < len0 := by simpa using hp
      have h0 := (World.cells?_some (hf 0 hlen).1).2.2 0 hkp
      have hsome : ∃ u, w.cell? a = some u := by
        have e : (a.add (0 * k)).add 0 = a := by simp [Addr.add]
        rw [e] at h0
        exact ⟨_, h0.trans (List.getElem?_eq_getElem (by rw [hk]; exact hkp))⟩
      obtain ⟨u, hu⟩ := hsome
      have hform := fun j => (add_form (j := j) hu).1
      have hsp := (add_form (j := 0) hu).2
      obtain ⟨b, off, sp⟩ := a
      simp only at hsp
      subst hsp
      refine ⟨b, off, rfl, World.block_lt_of_cell? w ⟨b, off, none⟩ hu, lay_join hk _ _ fun i hi => ?_⟩
      simp only [List.length_map, List.length_range] at hi
      simp only [List.getElem_map, List.getElem_range]
      intro j u' hu'
      have hjk : j < k := by
        have := (List.getElem?_eq_some_iff.1 hu').1
        rwa [hk] at this
      have hc := (World.cells?_some (hf i hi).1).2.2 j hjk
      rw [hu', Go.Deep.add_add, hform] at hc
      simpa [Nat.add_assoc] using hc
    · simp only [List.mem_map, List.mem_range] at hx
      obtain ⟨i, hi, rfl⟩ := hx
      exact (hf i hi).2
end

def Holds (w : World) (e : Ending) (w' : World) : Prop := e = .returned (.bool true) ∧ Below w.heap.size w w'

section
variable {H : Type} {enc : TypeId × Value → H} {P : Program}
theorem trodAll_len {w : World} {base : Nat} {spare : Nat → Bool} {held : Bool} : ∀ (ts : List TypeId) {vs : List Value} {ds : List (DataW H)} {ps : List MemPlace}, DataW.TrodAll enc P w base spare held ts vs ds ps → ds.length = ts.length
  | [], _, _, _, h => by obtain ⟨_, rfl, _⟩ := trodAll_nil h; rfl
  | t :: ts, _, _, _, h => by
    obtain ⟨v, vs, d, ds, p, q, rfl, rfl, rfl, h1, h2⟩ := trodAll_cons h
    simp [trodAll_len ts h2]
theorem trodAll_stays (hl : laidOutB P = true) {W W' : World} {sp : Nat → Bool} : ∀ (ts : List TypeId) {vs : List Value} {ds : List (DataW H)} {ps : List MemPlace}, (∀ t ∈ ts, P.readableRec t = true ∧ t < P.types.size) →
    DataW.TrodAll enc P W 0 (fun _ => true) true ts vs ds ps → (∀ p ∈ ps, W.sameAt W' p) → (∀ p ∈ ps, sp p.block = true) → DataW.TrodAll enc P W' 0 sp true ts vs ds ps
  | [], _, _, _, _, h, _, _ => by
    obtain ⟨rfl, rfl, rfl⟩ := trodAll_nil h
    exact trodAll_mk0
  | t :: ts, _, _, _, hts, h, hsame, hs => by
    obtain ⟨v, vs, d, ds, p, q, rfl, rfl, rfl, h1, h2⟩ := trodAll_cons h
    obtain ⟨hr, hrow⟩ := hts t (List.mem_cons_self ..)
    exact ⟨p, q, WideElems.Trod_stays hl hr hrow h1 (fun x hx => hsame x (List.mem_append.2 (.inl hx))) (fun x hx => hs x (List.mem_append.2 (.inl hx))),
      trodAll_stays hl ts (fun t ht => hts t (List.mem_cons_of_mem _ ht)) h2 (fun x hx => hsame x (List.mem_append.2 (.inr hx))) (fun x hx => hs x (List.mem_append.2 (.inr hx))), rfl⟩

/-- A law's last step: true is handed back, what lay lies as it did. -/
theorem law_post (hl : laidOutB P = true) {f : Func} {s : ChangeSpec} {apart fresh handsOn : Bool} {W W' : World} {args : Array Value} {ds gs : List (DataW H)} {before : List MemPlace} {tb : TypeId}
    (hb : P.underlying tb = some .bool) (hr : f.resultTypes = #[tb]) (hts : ∀ t ∈ f.params.toList, P.readableRec t = true ∧ t < P.types.size) (hv : s.vars = [])
    (hspec : ∀ ds : List (DataW H), ds.length = f.params.toList.length → (s.fn H ds).results = [.lit (.bool true)] ∧ (s.fn H ds).args = ds ∧ (s.fn H ds).vars = [])
    (hW : DataW.Whole enc P f.params.toList s.vars apart W args.toList ds gs before) (hbel : Below W.heap.size W W') : s.post enc P f apart fresh handsOn false W args (.bool true) W' := by
  have hlt : ∀ p ∈ before, p.block < W.heap.size := fun p hp => hW.lt p hp
  have hW0 := hW
  obtain ⟨p, q, hA, hV, rfl, hfz, hnd⟩ := hW
  rw [hv] at hV
  obtain ⟨rfl, rfl⟩ := trodVars_none hV
  simp only [List.append_nil] at hlt
  obtain ⟨e1, e2, e3⟩ := hspec ds (trodAll_len _ hA)
  refine ⟨ds, [], p ++ [], [], p, [], hW0, ?_, ?_, ?_, ?_, fun h => by cases h⟩
  · rw [List.append_nil, e1, hr]
    exact trodAll_mk1 ⟨1, by simp [DataW.trod, Value.cells, hb]⟩
  · rw [List.append_nil, e2]
    exact trodAll_stays hl _ hts hA (fun x hx => hbel.same (hlt x hx)) (fun x hx => by simpa using hlt x hx)
  · rw [List.append_nil, e3, hv]
    trivial
  · exact World.keptBut_mono (fun x hx => ⟨hx, .inr (.inl (by simpa using hx))⟩) (hbel.frame (· ∈ p ++ []))

theorem law_lifts {C : Checked} (own : ownKnob C.prog.godebug = none) (hl : laidOutB C.prog = true) {os : Os} (started : os.Started) {f : FuncId} {fn : Func} {s : ChangeSpec} {apart fresh handsOn : Bool} {tb : TypeId}
    (noInit : C.prog.inits.idxOf? f = none) (hfn : C.prog.funcs[f]? = some fn)
    (hb : C.prog.underlying tb = some .bool) (hr : fn.resultTypes = #[tb]) (hts : ∀ t ∈ fn.params.toList, C.prog.readableRec t = true ∧ t < C.prog.types.size) (hv : s.vars = [])
    (hspec : ∀ ds : List (DataW H), ds.length = fn.params.toList.length → (s.fn H ds).results = [.lit (.bool true)] ∧ (s.fn H ds).args = ds ∧ (s.fn H ds).vars = [])
    (witness : ∃ (w : World) (tape : Tape) (i : Input), w.os = os ∧ (w.forCall tape i).Shaped C.prog ∧ i.vars = [] ∧ Input.okWide C.prog (w.forCall tape i) .any w.heap.size f i ∧
      s.pre6 enc C.prog fn [] apart (w.forCall tape i).memory i.args ∧ ({} : Assume).holds C.prog (lone (Frame.enter C.prog f i.args .normal) [] (w.forCall tape i)))
    (contract : ∀ (W : World) (base : Nat) (args : Array Value) (ds : List (DataW H)) (ps : List MemPlace),
      (∀ (j : Nat) t v, fn.params[j]? = some t → args[j]? = some v → Value.okWide C.prog W .any base t v) →
      DataW.TrodAll enc C.prog W 0 (fun _ => true) true fn.params.toList args.toList ds ps → Calls C.prog f args W (Holds W)) :
    ReturnsInHanded {} C os f .any (s.pre6 enc C.prog fn [] apart) (s.post enc C.prog fn apart fresh handsOn false) := by
  refine returnsInHanded_of_change own started noInit hfn witness ?_
  intro W base args ds gs before hval hW _ _
  have hW0 := hW
  obtain ⟨p, q, hA, hV, rfl, hfz, hnd⟩ := hW
  exact (contract W base args ds p hval hA).mono fun e W' ⟨he, hbel⟩ => ⟨_, he, law_post hl hb hr hts hv hspec hW0 hbel⟩
end
end Go.Proofs.YtmgpfkoomlgcoaaGreat
