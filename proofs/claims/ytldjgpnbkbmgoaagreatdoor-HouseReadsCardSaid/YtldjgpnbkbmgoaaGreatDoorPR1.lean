/-
  Arguments opened: a slice of whatever elements, as a list. Conditions: none. Arguments opened: bytes. Conditions: none. Arguments opened: a request, with its text's size. Conditions: none. WireNeeds holds: for any request: the law returns true, and its argument reads as it did. Conditions: none. WireDecodes holds: for any bytes: the law returns true, and its argument reads as it did. Conditions: n
-/
import Derived.Test.YtldjgpnbkbmgoaaGreatDoorRows
import Derived.Test.YtldjgpnbkbmgoaaGreatDoorLib
import Derived.Test.YtldjgpnbkbmgoaaGreatDoorPlain
import Derived.Test.YtldjgpnbkbmgoaaGreatDoorBack
import Derived.Test.YtldjgpnbkbmgoaaGreatDoorRead
import Derived.Test.YtldjgpnbkbmgoaaGreatDoorQuote
import Derived.ProofKit
import Derived.Deep.Slices
import Derived.Deep.Fields
import Derived.ChangeSame
import Derived.SizedLaws
import Derived.Deep.DeepCutAuto
import Derived.Lib.Bytealg
import Derived.Laws.Externs
import Derived.Lib.Walk
set_option linter.unusedSimpArgs false
set_option linter.unusedVariables false
set_option maxRecDepth 100000
set_option maxHeartbeats 8000000
namespace Go.Proofs.YtldjgpnbkbmgoaaGreatDoor
open Go.RowKit Go.ChangeShapes Go.WideShapes Go.Deep
section
variable {H : Type} {enc : TypeId × Value → H} {P : Program} {w : World} {base : Nat} {spare : Nat → Bool} {held : Bool}
end
def Holds (w : World) (e : Ending) (w' : World) : Prop := e = .returned (.bool true) ∧ Below w.heap.size w w'
section
variable {H : Type} {enc : TypeId × Value → H} {P : Program}
theorem trodAll_len {w : World} {base : Nat} {spare : Nat → Bool} {held : Bool} : ∀ (ts : List TypeId) {vs : List Value} {ds : List (DataW H)} {ps : List MemPlace}, DataW.TrodAll enc P w base spare held ts vs ds ps → ds.length = ts.length
  | [], _, _, _, h => by obtain ⟨_, rfl, _⟩ := trodAll_nil h; rfl
  | t :: ts, _, _, _, h => by
    obtain ⟨v, vs, d, ds, p, q, rfl, rfl, rfl, h1, h2⟩ := trodAll_cons h
    simp [trodAll_len ts h2]
theorem trodAll_stays (hl : laidOutB P = true) {W W' : World} {sp : Nat → Bool} : ∀ (ts : List TypeId) {vs : List Value} {ds : List (DataW H)} {ps : List MemPlace}, (∀ t ∈ ts, P.readableRec t = true ∧ t < P.types.size) →
    DataW.TrodAll enc P W 0 (fun _ => true) true ts vs ds ps → (∀ p ∈ ps, W.sameAt W' p) → (∀ p ∈ ps, sp p.block = true) → DataW.TrodAll enc P W' 0 sp true ts vs ds ps
  | [], _, _, _, _, h, _, _ => by
    obtain ⟨rfl, rfl, rfl⟩ := trodAll_nil h
    exact trodAll_mk0
  | t :: ts, _, _, _, hts, h, hsame, hs => by
    obtain ⟨v, vs, d, ds, p, q, rfl, rfl, rfl, h1, h2⟩ := trodAll_cons h
    obtain ⟨hr, hrow⟩ := hts t (List.mem_cons_self ..)
    exact ⟨p, q, WideElems.Trod_stays hl hr hrow h1 (fun x hx => hsame x (List.mem_append.2 (.inl hx))) (fun x hx => hs x (List.mem_append.2 (.inl hx))),
      trodAll_stays hl ts (fun t ht => hts t (List.mem_cons_of_mem _ ht)) h2 (fun x hx => hsame x (List.mem_append.2 (.inr hx))) (fun x hx => hs x (List.mem_append.2 (.inr hx))), rfl⟩
theorem law_post (hl : laidOutB P = true) {f : Func} {s : ChangeSpec} {apart fresh handsOn : Bool} {W W' : World} {args : Array Value} {ds gs : List (DataW H)} {before : List MemPlace} {tb : TypeId}
    (hb : P.underlying tb = some .bool) (hr : f.resultTypes = #[tb]) (hts : ∀ t ∈ f.params.toList, P.readableRec t = true ∧ t < P.types.size) (hv : s.vars = [])
    (hspec : ∀ ds : List (DataW H), ds.length = f.params.toList.length → (s.fn H ds).results = [.lit (.bool true)] ∧ (s.fn H ds).args = ds ∧ (s.fn H ds).vars = [])
    (hW : DataW.Whole enc P f.params.toList s.vars apart W args.toList ds gs before) (hbel : Below W.heap.size W W') : s.post enc P f apart fresh handsOn false W args (.bool true) W' := by
  have hlt : ∀ p ∈ before, p.block < W.heap.size := fun p hp => hW.lt p hp
  have hW0 := hW
  obtain ⟨p, q, hA, hV, rfl, hfz, hnd⟩ := hW
  rw [hv] at hV
  obtain ⟨rfl, rfl⟩ := trodVars_none hV
  simp only [List.append_nil] at hlt
  obtain ⟨e1, e2, e3⟩ := hspec ds (trodAll_len _ hA)
  refine ⟨ds, [], p ++ [], [], p, [], hW0, ?_, ?_, ?_, ?_, fun h => by cases h⟩
  · rw [List.append_nil, e1, hr]
    exact trodAll_mk1 ⟨1, by simp [DataW.trod, Value.cells, hb]⟩
  · rw [List.append_nil, e2]
    exact trodAll_stays hl _ hts hA (fun x hx => hbel.same (hlt x hx)) (fun x hx => by simpa using hlt x hx)
  · rw [List.append_nil, e3, hv]
    trivial
  · exact World.keptBut_mono (fun x hx => ⟨hx, .inr (.inl (by simpa using hx))⟩) (hbel.frame (· ∈ p ++ []))
end
end Go.Proofs.YtldjgpnbkbmgoaaGreatDoor

namespace Go.Proofs.YtldjgpnbkbmgoaaGreatDoor
open Go.RowKit Go.ChangeShapes Go.WideShapes
theorem knob_none : ownKnob Tryz.prog.godebug = none := by kernel_rfl
theorem laid_out : laidOutB Tryz.prog = true := by kernel_rfl
section
variable {H : Type} {enc : TypeId × Value → H} {w : World} {base : Nat} {spare : Nat → Bool} {held : Bool}
end
end Go.Proofs.YtldjgpnbkbmgoaaGreatDoor

namespace Go.Proofs.YtldjgpnbkbmgoaaGreatDoor
open Go.RowKit Go.ChangeShapes Go.WideShapes
section
variable {H : Type} {enc : TypeId × Value → H} {P : Program}
end
section
variable {H : Type} {enc : TypeId × Value → H} {w : World} {base : Nat} {spare : Nat → Bool} {held : Bool}
end
end Go.Proofs.YtldjgpnbkbmgoaaGreatDoor

namespace Go.Proofs.YtldjgpnbkbmgoaaGreatDoor
open Go.RowKit Go.ChangeShapes Go.WideShapes Go.Lib
attribute [local go_sem ↓] load_req stop_req
structure RQ (w wx : World) (q : Req) : Prop where
  b0 : Blk wx w.heap.size 60 (rqC q)
  bel : Below w.heap.size w wx
theorem RQ.below {w wx wy : World} {q : Req} (h : RQ w wx q) (hb : Below wx.heap.size wx wy) : RQ w wy q := ⟨h.b0.below hb h.b0.lt, h.bel.trans (hb.mono h.bel.size)⟩
theorem RQ.new (w : World) (q : Req) : RQ w (w.alloc (.cells (rqC q) 60)) q := ⟨Blk.new w _ _, (Below.refl _ _).alloc (Nat.le_refl _) _⟩
theorem RQ.drew {w wx : World} {q : Req} (h : RQ w wx q) : RQ w wx.drew q := ⟨h.b0, below_drew h.bel⟩
end Go.Proofs.YtldjgpnbkbmgoaaGreatDoor

namespace Go.Proofs.YtldjgpnbkbmgoaaGreatDoor
open Go.RowKit Go.ChangeShapes Go.WideShapes Go.Lib
attribute [local go_sem ↓] load_req stop_req
end Go.Proofs.YtldjgpnbkbmgoaaGreatDoor

namespace Go.Proofs.YtldjgpnbkbmgoaaGreatDoor
open Go.RowKit
def Small (ws l : List Nat) : Prop := ∀ i, ws.getD i 8 ≤ 4 → l.getD i 0 ≤ 4611686018427387903
theorem no_blank_ns (ns : List Int) : ∀ w ∈ nsW ns, (32 : UInt8) ∉ w := fun w hw => by
  obtain ⟨x, _, rfl⟩ := List.mem_map.1 hw
  exact no_blank_txt _
def NoB (ws : List (List UInt8)) : Prop := ∀ w ∈ ws, (32 : UInt8) ∉ w
theorem NoB.ns (ns : List Int) : NoB (nsW ns) := no_blank_ns ns
theorem NoB.one {w : List UInt8} (h : (32 : UInt8) ∉ w) : NoB [w] := fun x hx => by
  simp only [List.mem_cons, List.not_mem_nil, or_false] at hx
  subst hx
  exact h
theorem NoB.nil : NoB [] := fun x hx => by cases hx
theorem NoB.app {a b : List (List UInt8)} (h : NoB a) (k : NoB b) : NoB (a ++ b) := fun w hw => by
  rcases List.mem_append.1 hw with hw | hw
  · exact h w hw
  · exact k w hw
end Go.Proofs.YtldjgpnbkbmgoaaGreatDoor

namespace Go.Proofs.YtldjgpnbkbmgoaaGreatDoor
structure HIt where
  kind : Int
  conn : Int
  bs : List UInt8
  draw : Nat
  n : Int
  q : Req
def zeroIt : HIt := ⟨0, 0, [], 0, 0, zeroR 0⟩
def thB (c : Int) : Bool := decide (0 ≤ c) && decide (c < 8)
def tickB (n : Int) : Bool := decide (0 ≤ n) && decide (n ≤ 4294967295)
def bareB (q : Req) : Bool := reqEq q (zeroR 0)
def itOk (x : HIt) : Bool :=
  if x.kind = 1 then thB x.conn && (decide (x.bs.length ≤ 500) && (decide (x.draw = 0) && (decide (x.n = 0) && bareB x.q)))
  else if x.kind = 2 then thB x.conn && (decide (x.bs.length = 0) && (decide (x.n = 0) && bareB x.q))
  else if x.kind = 3 then decide (x.conn = 0) && (decide (x.bs.length = 0) && (decide (x.draw = 0) && (tickB x.n && bareB x.q)))
  else if x.kind = 4 then thB x.conn && (decide (x.bs.length = 0) && (decide (x.n = 0) && encOk x.q))
  else false
def hexB (l : List UInt8) : List UInt8 := if l = [] then [45] else l.flatMap fun c => [hd (c.toNat / 16), hd (c.toNat % 16)]
def wFeed : List UInt8 := [102, 101, 101, 100]
def wPick : List UInt8 := [112, 105, 99, 107]
def wTick : List UInt8 := [116, 105, 99, 107]
def wAsk : List UInt8 := [97, 115, 107]
def wSecret : List UInt8 := [115, 101, 99, 114, 101, 116]
def smallT (n : Int) : List UInt8 := txt (u64n n)
def itT (x : HIt) : List UInt8 :=
  if x.kind = 1 then wFeed ++ 32 :: (smallT x.conn ++ 32 :: hexB x.bs)
  else if x.kind = 2 then wPick ++ 32 :: (smallT x.conn ++ 32 :: hexT x.draw)
  else if x.kind = 3 then wTick ++ 32 :: smallT x.n
  else wAsk ++ 32 :: (smallT x.conn ++ 32 :: (hexT x.draw ++ 32 :: lineT x.q))
def secT (s : Nat) : List UInt8 := wSecret ++ 32 :: hexT s
def jobOk (ss : List Nat) (xs : List HIt) : Bool := decide (1 ≤ ss.length) && (decide (ss.length ≤ 8) && (decide (xs.length ≤ 1000) && (ss.all (fun s => decide (s ≠ 0)) && xs.all itOk)))
def jobT (ss : List Nat) (xs : List HIt) : List UInt8 := (ss.flatMap fun s => secT s ++ [10]) ++ xs.flatMap fun x => itT x ++ [10]
def cutC (c : UInt8) : List UInt8 → List UInt8 × List UInt8 × Bool
  | [] => ([], [], false)
  | x :: r => if x = c then ([], r, true) else (x :: (cutC c r).1, (cutC c r).2.1, (cutC c r).2.2)
theorem cutC_app (c : UInt8) : ∀ (w r : List UInt8), c ∉ w → cutC c (w ++ c :: r) = (w, r, true)
  | [], r, _ => by simp [cutC]
  | x :: w, r, h => by
    simp only [List.mem_cons, not_or] at h
    rw [List.cons_append, cutC, if_neg (fun e => h.1 e.symm), cutC_app c w r h.2]
theorem cutC_some (c : UInt8) : ∀ (l : List UInt8), (cutC c l).2.2 = true → l = (cutC c l).1 ++ c :: (cutC c l).2.1 ∧ c ∉ (cutC c l).1
  | [], h => by simp [cutC] at h
  | x :: l, h => by
    unfold cutC at h ⊢
    split
    · rename_i e
      subst e
      simp
    · rename_i e
      rw [if_neg e] at h
      obtain ⟨h1, h2⟩ := cutC_some c l h
      refine ⟨?_, ?_⟩
      · simp only [List.cons_append]
        rw [← h1]
      · simp only [List.mem_cons, not_or]
        exact ⟨fun h => e h.symm, h2⟩
theorem cutC_len (c : UInt8) (l : List UInt8) (h : (cutC c l).2.2 = true) : (cutC c l).2.1.length < l.length := by
  have h1 := congrArg List.length (cutC_some c l h).1
  simp only [List.length_append, List.length_cons] at h1
  omega
theorem cutC_rest (c : UInt8) (l : List UInt8) : (cutC c l).2.1.length ≤ l.length := by
  cases h : (cutC c l).2.2 with
  | true => have := cutC_len c l h; omega
  | false =>
    have key : ∀ l : List UInt8, (cutC c l).2.2 = false → (cutC c l).2.1 = [] := by
      intro l
      induction l with
      | nil => intro _; rfl
      | cons x l ih =>
        intro h
        unfold cutC at h ⊢
        split
        · rename_i e; rw [if_pos e] at h; cases h
        · rename_i e; rw [if_neg e] at h; exact ih h
    rw [key l h]
    simp
theorem cutC_word (c : UInt8) : ∀ l : List UInt8, (cutC c l).1.length ≤ l.length
  | [] => by simp [cutC]
  | x :: l => by
    have := cutC_word c l
    unfold cutC
    split <;> simp
    omega
abbrev HRd := List UInt8 × Bool
def rdNum (r : HRd) : Int × HRd :=
  let p := par (cutC 32 r.1).1
  if p.2 ≠ 0 ∨ 4294967295 < p.1 then (0, ((cutC 32 r.1).2.1, true)) else ((p.1 : Int), ((cutC 32 r.1).2.1, r.2))
def rdDraw (r : HRd) : Nat × HRd :=
  let p := rhex (cutC 32 r.1).1
  (p.1, ((cutC 32 r.1).2.1, r.2 || decide (p.2 ≠ 0)))
def unhF : List UInt8 → Option (List UInt8)
  | [] => some []
  | [_] => some []
  | a :: b :: r => if hv a < 16 ∧ hv b < 16 then (unhF r).map (UInt8.ofNat (16 * hv a + hv b) :: ·) else none
def unhex (w : List UInt8) : List UInt8 × Bool :=
  if w = [45] then ([], true) else
  match unhF w with
  | none => ([], false)
  | some l => (l, decide (0 < l.length) && decide (w.length % 2 = 0))
def rdBytes (r : HRd) : List UInt8 × HRd :=
  let p := unhex (cutC 32 r.1).1
  (p.1, ((cutC 32 r.1).2.1, r.2 || !p.2))
def itR (l : List UInt8) : HIt × Bool :=
  let r : HRd := ((cutC 32 l).2.1, false)
  let w := (cutC 32 l).1
  if w = wFeed then
    let a := rdNum r
    let b := rdBytes a.2
    ({ zeroIt with kind := 1, conn := a.1, bs := b.1 }, b.2.2)
  else if w = wPick then
    let a := rdNum r
    let b := rdDraw a.2
    ({ zeroIt with kind := 2, conn := a.1, draw := b.1 }, b.2.2)
  else if w = wTick then
    let a := rdNum r
    ({ zeroIt with kind := 3, n := a.1 }, a.2.2)
  else if w = wAsk then
    let a := rdNum r
    let b := rdDraw a.2
    let p := readQ b.2.1
    ({ zeroIt with kind := 4, conn := a.1, draw := b.1, q := p.1 }, b.2.2 || decide (p.2 ≠ 0))
  else (zeroIt, false)
def itL (l : List UInt8) : HIt × Bool := if (itR l).2 = false ∧ itOk (itR l).1 = true ∧ itT (itR l).1 = l then ((itR l).1, true) else (zeroIt, false)
def secL (l : List UInt8) : Nat × Bool :=
  let c := cutC 32 l
  let p := rhex c.2.1
  (p.1, decide (c.1 = wSecret) && (decide (p.2 = 0) && decide (p.1 ≠ 0)))
def Vis (l : List UInt8) : Prop := ∀ c ∈ l, 33 ≤ c.toNat
theorem Vis.no {l : List UInt8} (h : Vis l) {c : UInt8} (hc : c.toNat < 33) : c ∉ l := fun hm => by have := h c hm; omega
theorem Vis.app {a b : List UInt8} (h : Vis a) (k : Vis b) : Vis (a ++ b) := fun c hc => by
  rcases List.mem_append.1 hc with hc | hc
  · exact h c hc
  · exact k c hc
theorem vis_txt (n : Nat) : Vis (txt n) := fun c hc => by have := txtF_dig 19 n c hc; omega
theorem hexB_ne (l : List UInt8) : hexB l ≠ [] := by
  unfold hexB
  split
  · simp
  · rename_i h
    cases l with
    | nil => exact absurd rfl h
    | cons a l => simp
def HIt.fits (x : HIt) : Prop := x.draw < 18446744073709551616
theorem itL_back {l : List UInt8} (h : (itL l).2 = true) : itOk (itL l).1 = true ∧ itT (itL l).1 = l := by
  unfold itL at h ⊢
  split
  · rename_i hc
    exact ⟨hc.2.1, hc.2.2⟩
  · rename_i hc
    rw [if_neg hc] at h
    cases h
theorem rhex_back {l : List UInt8} (h : (rhex l).2 = 0) : hexT (rhex l).1 = l := by
  unfold rhex at h ⊢
  split
  · rename_i hl; rw [if_pos hl] at h; cases h
  · rename_i hl
    rw [if_neg hl] at h
    have hl : l.length = 16 := by omega
    cases hr : rhF l 0 with
    | none => rw [hr] at h; cases h
    | some n => exact hexF_back 16 l n hl hr
theorem secL_back {l : List UInt8} (h : (secL l).2 = true) : secT (secL l).1 = l ∧ (secL l).1 ≠ 0 := by
  unfold secL at h ⊢
  simp only [Bool.and_eq_true, decide_eq_true_eq] at h ⊢
  obtain ⟨h1, h2, h3⟩ := h
  refine ⟨?_, h3⟩
  unfold secT
  rw [rhex_back h2, ← h1]
  have hne : (cutC 32 l).2.2 = true := by
    cases hc : (cutC 32 l).2.2 with
    | true => rfl
    | false =>
      have key : ∀ l : List UInt8, (cutC 32 l).2.2 = false → (cutC 32 l).2.1 = [] := by
        intro l
        induction l with
        | nil => intro _; rfl
        | cons x l ih =>
          intro h
          unfold cutC at h ⊢
          split
          · rename_i e; rw [if_pos e] at h; cases h
          · rename_i e; rw [if_neg e] at h; exact ih h
      rw [key l hc] at h2
      simp [rhex] at h2
  exact (cutC_some 32 l hne).1.symm
structure PRes where
  ss : List Nat
  xs : List HIt
  err : Int
  line : Nat
def parseF : Nat → Nat → List Nat → List HIt → List UInt8 → PRes
  | 0, row, _, _, _ => ⟨[], [], 60, row⟩
  | k + 1, row, ss, xs, s =>
    if s = [] then (if ss = [] then ⟨[], [], 60, row⟩ else ⟨ss, xs, 0, 0⟩)
    else if (cutC 10 s).2.2 = false then ⟨[], [], 60, row⟩
    else if (secL (cutC 10 s).1).2 = true ∧ xs = [] ∧ ss.length < 8 then parseF k (row + 1) (ss ++ [(secL (cutC 10 s).1).1]) xs (cutC 10 s).2.1
    else if (itL (cutC 10 s).1).2 = false ∨ ss = [] then ⟨[], [], 60, row⟩
    else if xs.length = 1000 then ⟨[], [], 2, row⟩
    else parseF k (row + 1) ss (xs ++ [(itL (cutC 10 s).1).1]) (cutC 10 s).2.1
def parse (s : List UInt8) : PRes := if 65536 < s.length then ⟨[], [], 2, 1⟩ else parseF (s.length + 1) 1 [] [] s
theorem vis_ns (ns : List Int) : ∀ w ∈ nsW ns, Vis w := fun w hw => by
  obtain ⟨x, _, rfl⟩ := List.mem_map.1 hw
  exact vis_txt _
def VisW (ws : List (List UInt8)) : Prop := ∀ w ∈ ws, Vis w
theorem VisW.ns (ns : List Int) : VisW (nsW ns) := vis_ns ns
theorem VisW.one {w : List UInt8} (h : Vis w) : VisW [w] := fun x hx => by
  simp only [List.mem_cons, List.not_mem_nil, or_false] at hx
  subst hx
  exact h
theorem VisW.nil : VisW [] := fun x hx => by cases hx
theorem VisW.app {a b : List (List UInt8)} (h : VisW a) (k : VisW b) : VisW (a ++ b) := fun w hw => by
  rcases List.mem_append.1 hw with hw | hw
  · exact h w hw
  · exact k w hw
def secsT (ss : List Nat) : List UInt8 := ss.flatMap fun s => secT s ++ [10]
def itsT (xs : List HIt) : List UInt8 := xs.flatMap fun x => itT x ++ [10]
theorem jobT_eq (ss : List Nat) (xs : List HIt) : jobT ss xs = secsT ss ++ itsT xs := rfl
theorem jobOk_iff (ss : List Nat) (xs : List HIt) : jobOk ss xs = true ↔ 1 ≤ ss.length ∧ ss.length ≤ 8 ∧ xs.length ≤ 1000 ∧ (∀ s ∈ ss, s ≠ 0) ∧ ∀ x ∈ xs, itOk x = true := by
  unfold jobOk
  simp only [Bool.and_eq_true, decide_eq_true_eq, List.all_eq_true]
structure PInv (ss : List Nat) (xs : List HIt) : Prop where
  s8 : ss.length ≤ 8
  s0 : ∀ s ∈ ss, s ≠ 0
  sl : ∀ s ∈ ss, s < 18446744073709551616
  x1 : xs.length ≤ 1000
  xo : ∀ x ∈ xs, itOk x = true ∧ x.fits
  ne : xs ≠ [] → ss ≠ []
theorem itL_fits {l : List UInt8} : (itL l).1.fits := by
  unfold HIt.fits
  have hz : zeroIt.draw < 18446744073709551616 := by decide
  have key : (itR l).1.draw < 18446744073709551616 := by
    unfold itR
    simp only
    split
    · exact hz
    · split
      · exact rhex_lt _
      · split
        · exact hz
        · split
          · exact rhex_lt _
          · exact hz
  unfold itL
  split
  · exact key
  · exact hz
theorem parseF_back : ∀ (k row : Nat) (ss : List Nat) (xs : List HIt) (s : List UInt8), PInv ss xs → (parseF k row ss xs s).err = 0 →
    PInv (parseF k row ss xs s).ss (parseF k row ss xs s).xs ∧ (parseF k row ss xs s).ss ≠ [] ∧ secsT (parseF k row ss xs s).ss ++ itsT (parseF k row ss xs s).xs = secsT ss ++ itsT xs ++ s
  | 0, row, ss, xs, s, hi, h => by simp [parseF] at h
  | k + 1, row, ss, xs, s, hi, h => by
    unfold parseF at h ⊢
    by_cases h0 : s = []
    · rw [if_pos h0] at h ⊢
      by_cases h1 : ss = []
      · rw [if_pos h1] at h
        simp at h
      · rw [if_neg h1]
        exact ⟨hi, h1, by rw [h0, List.append_nil]⟩
    · rw [if_neg h0] at h ⊢
      by_cases h1 : (cutC 10 s).2.2 = false
      · rw [if_pos h1] at h
        simp at h
      · rw [if_neg h1] at h ⊢
        obtain ⟨hs, -⟩ := cutC_some 10 s (by simpa using h1)
        by_cases h2 : (secL (cutC 10 s).1).2 = true ∧ xs = [] ∧ ss.length < 8
        · rw [if_pos h2] at h ⊢
          obtain ⟨h2, rfl, h8⟩ := h2
          obtain ⟨e1, e2⟩ := secL_back h2
          have hi' : PInv (ss ++ [(secL (cutC 10 s).1).1]) [] := ⟨by simp; omega, fun x hx => by
              rcases List.mem_append.1 hx with hx | hx
              · exact hi.s0 x hx
              · simp only [List.mem_cons, List.not_mem_nil, or_false] at hx
                rw [hx]
                exact e2, fun x hx => by
              rcases List.mem_append.1 hx with hx | hx
              · exact hi.sl x hx
              · simp only [List.mem_cons, List.not_mem_nil, or_false] at hx
                rw [hx]
                exact rhex_lt _, by simp, by simp, by simp⟩
          obtain ⟨a, b, c⟩ := parseF_back k (row + 1) _ _ _ hi' h
          refine ⟨a, b, c.trans ?_⟩
          have : secsT (ss ++ [(secL (cutC 10 s).1).1]) = secsT ss ++ ((cutC 10 s).1 ++ [10]) := by simp [secsT, e1]
          rw [this]
          conv => rhs; rw [hs]
          simp [itsT]
        · rw [if_neg h2] at h ⊢
          by_cases h3 : (itL (cutC 10 s).1).2 = false ∨ ss = []
          · rw [if_pos h3] at h
            simp at h
          · rw [if_neg h3] at h ⊢
            by_cases h4 : xs.length = 1000
            · rw [if_pos h4] at h
              simp at h
            · rw [if_neg h4] at h ⊢
              rw [not_or] at h3
              obtain ⟨e1, e2⟩ := itL_back (l := (cutC 10 s).1) (by simpa using h3.1)
              have hi' : PInv ss (xs ++ [(itL (cutC 10 s).1).1]) := ⟨hi.s8, hi.s0, hi.sl, by have := hi.x1; simp; omega, fun x hx => by
                  rcases List.mem_append.1 hx with hx | hx
                  · exact hi.xo x hx
                  · simp only [List.mem_cons, List.not_mem_nil, or_false] at hx
                    rw [hx]
                    exact ⟨e1, itL_fits⟩, fun _ => h3.2⟩
              obtain ⟨a, b, c⟩ := parseF_back k (row + 1) _ _ _ hi' h
              refine ⟨a, b, c.trans ?_⟩
              have : itsT (xs ++ [(itL (cutC 10 s).1).1]) = itsT xs ++ ((cutC 10 s).1 ++ [10]) := by simp [itsT, e2]
              rw [this]
              conv => rhs; rw [hs]
              simp
theorem pinv_start : PInv [] [] := ⟨by simp, by simp, by simp, by simp, by simp, by simp⟩
theorem parse_back {s : List UInt8} (h : (parse s).err = 0) : jobOk (parse s).ss (parse s).xs = true ∧ jobT (parse s).ss (parse s).xs = s ∧ (∀ x ∈ (parse s).ss, x < 18446744073709551616) ∧ ∀ x ∈ (parse s).xs, x.fits := by
  unfold parse at h ⊢
  split
  · rename_i hc
    rw [if_pos hc] at h
    simp at h
  · rename_i hc
    rw [if_neg hc] at h
    obtain ⟨a, b, c⟩ := parseF_back _ _ _ _ _ pinv_start h
    refine ⟨(jobOk_iff _ _).2 ⟨List.length_pos_iff.mpr b, a.s8, a.x1, a.s0, fun x hx => (a.xo x hx).1⟩, ?_, a.sl, fun x hx => (a.xo x hx).2⟩
    rw [jobT_eq, c]
    simp [secsT, itsT]
theorem parseF_fuel : ∀ (k k' row : Nat) (ss : List Nat) (xs : List HIt) (s : List UInt8), s.length < k → s.length < k' → parseF k row ss xs s = parseF k' row ss xs s
  | 0, _, _, _, _, _, h, _ => by omega
  | _ + 1, 0, _, _, _, _, _, h => by omega
  | k + 1, k' + 1, row, ss, xs, s, h, h' => by
    unfold parseF
    by_cases h0 : s = []
    · rw [if_pos h0, if_pos h0]
    · rw [if_neg h0, if_neg h0]
      by_cases h1 : (cutC 10 s).2.2 = false
      · rw [if_pos h1, if_pos h1]
      · rw [if_neg h1, if_neg h1]
        have hl := cutC_len 10 s (by simpa using h1)
        rw [parseF_fuel k k' (row + 1) (ss ++ [(secL (cutC 10 s).1).1]) xs (cutC 10 s).2.1 (by omega) (by omega),
          parseF_fuel k k' (row + 1) ss (xs ++ [(itL (cutC 10 s).1).1]) (cutC 10 s).2.1 (by omega) (by omega)]
def linesLen : Nat → List UInt8 → Nat
  | 0, _ => 0
  | n + 1, s => if (cutC 10 s).2.2 = true then (cutC 10 s).1.length + 1 + linesLen n (cutC 10 s).2.1 else s.length
theorem linesLen_le : ∀ (n : Nat) (s : List UInt8), linesLen n s ≤ s.length
  | 0, s => by simp [linesLen]
  | n + 1, s => by
    unfold linesLen
    split
    · rename_i h
      have h1 := congrArg List.length (cutC_some 10 s h).1
      simp only [List.length_append, List.length_cons] at h1
      have := linesLen_le n (cutC 10 s).2.1
      omega
    · omega
theorem take_line_app (m : Nat) (a b : List UInt8) : (a ++ 10 :: b).take (a.length + 1 + m) = a ++ 10 :: b.take m := by
  rw [List.take_append, List.take_of_length_le (by omega)]
  congr 1
  rw [show a.length + 1 + m - a.length = m + 1 by omega, List.take_succ_cons]
theorem drop_line_app (m : Nat) (a b : List UInt8) : (a ++ 10 :: b).drop (a.length + 1 + m) = b.drop m := by
  rw [List.drop_append, List.drop_of_length_le (by omega), List.nil_append]
  rw [show a.length + 1 + m - a.length = m + 1 by omega, List.drop_succ_cons]
theorem take_line {s : List UInt8} (h : (cutC 10 s).2.2 = true) (m : Nat) : s.take ((cutC 10 s).1.length + 1 + m) = (cutC 10 s).1 ++ 10 :: (cutC 10 s).2.1.take m :=
  (congrArg (List.take _) (cutC_some 10 s h).1).trans (take_line_app m _ _)
theorem drop_line {s : List UInt8} (h : (cutC 10 s).2.2 = true) (m : Nat) : s.drop ((cutC 10 s).1.length + 1 + m) = (cutC 10 s).2.1.drop m :=
  (congrArg (List.drop _) (cutC_some 10 s h).1).trans (drop_line_app m _ _)
theorem parseF_err : ∀ (k row : Nat) (ss : List Nat) (xs : List HIt) (s : List UInt8), s.length < k → (parseF k row ss xs s).err ≠ 0 →
    parseF k row ss xs s = ⟨[], [], (parseF k row ss xs s).err, (parseF k row ss xs s).line⟩ ∧ row ≤ (parseF k row ss xs s).line ∧ (parseF k row ss xs s).line ≤ row + s.count 10
  | 0, row, ss, xs, s, hk, h => by omega
  | k + 1, row, ss, xs, s, hk, h => by
    unfold parseF at h ⊢
    by_cases h0 : s = []
    · rw [if_pos h0] at h ⊢
      by_cases h1 : ss = []
      · rw [if_pos h1]
        exact ⟨rfl, Nat.le_refl _, Nat.le_add_right _ _⟩
      · rw [if_neg h1] at h
        exact absurd rfl h
    · rw [if_neg h0] at h ⊢
      by_cases h1 : (cutC 10 s).2.2 = false
      · rw [if_pos h1]
        exact ⟨rfl, Nat.le_refl _, Nat.le_add_right _ _⟩
      · rw [if_neg h1] at h ⊢
        have hl := cutC_len 10 s (by simpa using h1)
        obtain ⟨hs, hn⟩ := cutC_some 10 s (by simpa using h1)
        have hc : s.count 10 = (cutC 10 s).2.1.count 10 + 1 := by
          have h := congrArg (List.count 10) hs
          rw [List.count_append, List.count_eq_zero_of_not_mem hn, List.count_cons] at h
          simpa using h
        by_cases h2 : (secL (cutC 10 s).1).2 = true ∧ xs = [] ∧ ss.length < 8
        · rw [if_pos h2] at h ⊢
          obtain ⟨a, b, c⟩ := parseF_err k (row + 1) _ _ _ (by omega) h
          exact ⟨a, by omega, by omega⟩
        · rw [if_neg h2] at h ⊢
          by_cases h3 : (itL (cutC 10 s).1).2 = false ∨ ss = []
          · rw [if_pos h3]
            exact ⟨rfl, Nat.le_refl _, by simp only; omega⟩
          · rw [if_neg h3] at h ⊢
            by_cases h4 : xs.length = 1000
            · rw [if_pos h4]
              exact ⟨rfl, Nat.le_refl _, by simp only; omega⟩
            · rw [if_neg h4] at h ⊢
              obtain ⟨a, b, c⟩ := parseF_err k (row + 1) _ _ _ (by omega) h
              exact ⟨a, by omega, by omega⟩
theorem parseF_nil (k row : Nat) (ss : List Nat) (xs : List HIt) (hk : 0 < k) : parseF k row ss xs [] = if ss = [] then ⟨[], [], 60, row⟩ else ⟨ss, xs, 0, 0⟩ := by
  cases k with
  | zero => omega
  | succ k => rw [parseF, if_pos rfl]
theorem parseF_fault : ∀ (k row : Nat) (ss : List Nat) (xs : List HIt) (s : List UInt8), s.length < k → (parseF k row ss xs s).err = 60 →
    ((ss ≠ [] ∨ (parseF k row ss xs s).line ≠ row) → (parseF k row ss xs (s.take (linesLen ((parseF k row ss xs s).line - row) s))).err = 0) ∧
    parseF k row ss xs (s.take (linesLen ((parseF k row ss xs s).line - row) s + linesLen 1 (s.drop (linesLen ((parseF k row ss xs s).line - row) s)))) = parseF k row ss xs s
  | 0, row, ss, xs, s, hk, h => by omega
  | k + 1, row, ss, xs, s, hk, h => by
    have hline := parseF_err (k + 1) row ss xs s hk (by rw [h]; decide)
    have here : (parseF (k + 1) row ss xs s).line = row → parseF (k + 1) row ss xs (s.take (linesLen 1 s)) = parseF (k + 1) row ss xs s →
        ((ss ≠ [] ∨ (parseF (k + 1) row ss xs s).line ≠ row) → (parseF (k + 1) row ss xs (s.take (linesLen ((parseF (k + 1) row ss xs s).line - row) s))).err = 0) ∧
        parseF (k + 1) row ss xs (s.take (linesLen ((parseF (k + 1) row ss xs s).line - row) s + linesLen 1 (s.drop (linesLen ((parseF (k + 1) row ss xs s).line - row) s)))) = parseF (k + 1) row ss xs s := by
      intro e1 e2
      rw [e1, Nat.sub_self]
      refine ⟨fun hh => ?_, by simpa [linesLen] using e2⟩
      rcases hh with hh | hh
      · have : linesLen 0 s = 0 := rfl
        rw [this, List.take_zero, parseF_nil _ _ _ _ (by omega), if_neg hh]
      · exact absurd rfl hh
    by_cases h0 : s = []
    · subst h0
      refine here ?_ (by simp)
      rw [parseF_nil _ _ _ _ (by omega)] at h ⊢
      split
      · rfl
      · rename_i h1
        rw [if_neg h1] at h
        cases h
    · by_cases h1 : (cutC 10 s).2.2 = false
      · refine here ?_ ?_
        · rw [parseF, if_neg h0, if_pos h1]
        · have : linesLen 1 s = s.length := by rw [linesLen, if_neg (by rw [h1]; simp)]
          rw [this, List.take_length]
      · have h1 : (cutC 10 s).2.2 = true := by simpa using h1
        have hl := cutC_len 10 s h1
        obtain ⟨hs, hn⟩ := cutC_some 10 s h1
        have hcut := fun r => cutC_app 10 (cutC 10 s).1 r hn
        have hne : ∀ r, (cutC 10 s).1 ++ 10 :: r ≠ [] := fun r => by simp
        have hl1 : linesLen 1 s = (cutC 10 s).1.length + 1 + 0 := by rw [linesLen, if_pos h1]; rfl
        have step : ∀ (ss' : List Nat) (xs' : List HIt), ss' ≠ [] → (∀ r, r.length < k → parseF (k + 1) row ss xs ((cutC 10 s).1 ++ 10 :: r) = parseF k (row + 1) ss' xs' r) →
            ((ss ≠ [] ∨ (parseF (k + 1) row ss xs s).line ≠ row) → (parseF (k + 1) row ss xs (s.take (linesLen ((parseF (k + 1) row ss xs s).line - row) s))).err = 0) ∧
            parseF (k + 1) row ss xs (s.take (linesLen ((parseF (k + 1) row ss xs s).line - row) s + linesLen 1 (s.drop (linesLen ((parseF (k + 1) row ss xs s).line - row) s)))) = parseF (k + 1) row ss xs s := by
          intro ss' xs' hss hstep
          have e := hstep (cutC 10 s).2.1 (by omega)
          rw [← hs] at e
          rw [e] at h ⊢
          have hb := parseF_err k (row + 1) ss' xs' (cutC 10 s).2.1 (by omega) (by rw [h]; decide)
          obtain ⟨a, b⟩ := parseF_fault k (row + 1) ss' xs' (cutC 10 s).2.1 (by omega) h
          obtain ⟨L, hL⟩ : ∃ L, (parseF k (row + 1) ss' xs' (cutC 10 s).2.1).line = L := ⟨_, rfl⟩
          rw [hL] at a b hb ⊢
          obtain ⟨j, rfl⟩ : ∃ j, L = row + 1 + j := ⟨L - (row + 1), by omega⟩
          rw [show row + 1 + j - (row + 1) = j by omega] at a b
          rw [show row + 1 + j - row = j + 1 by omega]
          have hll : linesLen (j + 1) s = (cutC 10 s).1.length + 1 + linesLen j (cutC 10 s).2.1 := by rw [linesLen, if_pos h1]
          have hle := linesLen_le j (cutC 10 s).2.1
          rw [hll]
          refine ⟨fun _ => ?_, ?_⟩
          · rw [take_line h1, hstep _ (by rw [List.length_take]; omega)]
            exact a (.inl hss)
          · rw [drop_line h1, Nat.add_assoc _ (linesLen j _), take_line h1, hstep _ (by rw [List.length_take]; omega)]
            exact b
        by_cases h2 : (secL (cutC 10 s).1).2 = true ∧ xs = [] ∧ ss.length < 8
        · refine step (ss ++ [(secL (cutC 10 s).1).1]) xs (by simp) fun r hr => ?_
          rw [parseF, if_neg (hne r), hcut r]
          simp only
          rw [if_neg (by simp), if_pos h2]
        · by_cases h3 : (itL (cutC 10 s).1).2 = false ∨ ss = []
          · refine here ?_ ?_
            · rw [parseF, if_neg h0, if_neg (by rw [h1]; simp), if_neg h2, if_pos h3]
            · rw [hl1, take_line h1, List.take_zero]
              rw [parseF, if_neg (hne _), hcut]
              simp only
              rw [if_neg (by simp), if_neg h2, if_pos h3]
              rw [parseF, if_neg h0, if_neg (by rw [h1]; simp), if_neg h2, if_pos h3]
          · by_cases h4 : xs.length = 1000
            · rw [parseF, if_neg h0, if_neg (by rw [h1]; simp), if_neg h2, if_neg h3, if_pos h4] at h
              simp at h
            · refine step ss (xs ++ [(itL (cutC 10 s).1).1]) (fun e => h3 (.inr e)) fun r hr => ?_
              rw [parseF, if_neg (hne r), hcut r]
              simp only
              rw [if_neg (by simp), if_neg h2, if_neg h3, if_neg h4]
theorem parse_small {s : List UInt8} (h : s.length ≤ 65536) : parse s = parseF (s.length + 1) 1 [] [] s := by unfold parse; rw [if_neg (by omega)]
theorem parse_any {s : List UInt8} (k : Nat) (h : s.length ≤ 65536) (hk : s.length < k) : parse s = parseF k 1 [] [] s := (parse_small h).trans (parseF_fuel _ _ _ _ _ _ (by omega) hk)
theorem parse_fault {s : List UInt8} (hl : s.length ≤ 65536) (h : (parse s).err = 60) :
    parse s = ⟨[], [], 60, (parse s).line⟩ ∧ 1 ≤ (parse s).line ∧ (parse s).line ≤ 1 + s.count 10 ∧ ((parse s).line ≠ 1 → (parse (s.take (linesLen ((parse s).line - 1) s))).err = 0) ∧
    parse (s.take (linesLen ((parse s).line - 1) s + linesLen 1 (s.drop (linesLen ((parse s).line - 1) s)))) = parse s := by
  have e := parse_any (s.length + 1) hl (by omega)
  have hb := parseF_err (s.length + 1) 1 [] [] s (by omega) (by rw [← e, h]; decide)
  have hf := parseF_fault (s.length + 1) 1 [] [] s (by omega) (by rw [← e, h])
  rw [← e] at hb hf
  rw [h] at hb
  have ht : ∀ m, parse (s.take m) = parseF (s.length + 1) 1 [] [] (s.take m) := fun m => parse_any _ (by rw [List.length_take]; omega) (by rw [List.length_take]; omega)
  rw [ht, ht]
  exact ⟨hb.1, hb.2.1, hb.2.2, fun hh => hf.1 (.inr hh), hf.2⟩
theorem itT_len (x : HIt) : 6 ≤ (itT x).length := by
  have t1 : 0 < (smallT x.conn).length := List.length_pos_iff.mpr (txtF_ne _ _)
  have t2 : 0 < (smallT x.n).length := List.length_pos_iff.mpr (txtF_ne _ _)
  have t3 : (hexT x.draw).length = 16 := hexF_len _ _
  have t4 : 0 < (hexB x.bs).length := List.length_pos_iff.mpr (hexB_ne _)
  have w1 : wFeed.length = 4 := rfl
  have w2 : wPick.length = 4 := rfl
  have w3 : wTick.length = 4 := rfl
  have w4 : wAsk.length = 3 := rfl
  unfold itT
  split
  · simp only [List.length_append, List.length_cons]; omega
  · split
    · simp only [List.length_append, List.length_cons]; omega
    · split
      · simp only [List.length_append, List.length_cons]; omega
      · simp only [List.length_append, List.length_cons]; omega
theorem parseF_few : ∀ (k row : Nat) (ss : List Nat) (xs : List HIt) (s : List UInt8), 7 * xs.length + s.length < 7000 → (parseF k row ss xs s).err ≠ 2
  | 0, row, ss, xs, s, hl => by simp [parseF]
  | k + 1, row, ss, xs, s, hl => by
    unfold parseF
    split
    · split <;> simp
    · split
      · simp
      · rename_i h1
        have h1 : (cutC 10 s).2.2 = true := by simpa using h1
        have hlen := congrArg List.length (cutC_some 10 s h1).1
        simp only [List.length_append, List.length_cons] at hlen
        split
        · exact parseF_few k _ _ _ _ (by omega)
        · split
          · simp
          · rename_i h3
            split
            · omega
            · rw [not_or] at h3
              have e := (itL_back (l := (cutC 10 s).1) (by simpa using h3.1)).2
              have := itT_len (itL (cutC 10 s).1).1
              rw [e] at this
              exact parseF_few k _ _ _ _ (by simp; omega)
theorem parseF_errs : ∀ (k row : Nat) (ss : List Nat) (xs : List HIt) (s : List UInt8), (parseF k row ss xs s).err = 0 ∨ (parseF k row ss xs s).err = 2 ∨ (parseF k row ss xs s).err = 60
  | 0, row, ss, xs, s => by simp [parseF]
  | k + 1, row, ss, xs, s => by
    unfold parseF
    split
    · split <;> simp
    · split
      · simp
      · split
        · exact parseF_errs k _ _ _ _
        · split
          · simp
          · split
            · simp
            · exact parseF_errs k _ _ _ _
theorem parse_errs {s : List UInt8} (h : s.length ≤ 6000) : (parse s).err = 0 ∨ (parse s).err = 60 := by
  rw [parse_small (by omega)]
  rcases parseF_errs (s.length + 1) 1 [] [] s with h1 | h1 | h1
  · exact .inl h1
  · exact absurd h1 (parseF_few _ _ _ _ _ (by simp; omega))
  · exact .inr h1
end Go.Proofs.YtldjgpnbkbmgoaaGreatDoor

namespace Go.Proofs.YtldjgpnbkbmgoaaGreatDoor
open Go.RowKit Go.Lib
theorem ib_ok (s : ByteArray) (c : Int) (w : World) : Calls Tryz.prog 93 #[.string s, .int .u8 c] w fun e w' => e = .returned (.int .i64 (Lib.indexByte s.data.toList c.toNat.toUInt8)) ∧ w' = w := by
  go_enter Tryz.func93, Tryz.ntmps93
  go_wp2
  rw [run_callFunc_extern Tryz.func129 (by kernel_rfl) (by kernel_rfl) (by kernel_rfl) (e := Extern.BytealgIndexByte.indexByte) (by kernel_rfl), Lib.run_indexByteString]
  simp only [Result.andThen]
  rw [Oper.upon_value]
  go_wp2
  go_ret
  exact ⟨rfl, rfl⟩
theorem ib_cut (c : UInt8) : ∀ l : List UInt8, (Lib.indexByte l c = -1 ∧ cutC c l = (l, [], false)) ∨ ∃ i : Nat, Lib.indexByte l c = (i : Int) ∧ i < l.length ∧ cutC c l = (l.take i, l.drop (i + 1), true)
  | [] => .inl ⟨rfl, rfl⟩
  | x :: l => by
    unfold Lib.indexByte cutC
    by_cases h : x = c
    · right
      refine ⟨0, ?_, by simp, by simp [h]⟩
      simp [h]
    · have h2 : ¬ c = x := fun e => h e.symm
      rcases ib_cut c l with ⟨h1, h3⟩ | ⟨i, h1, h4, h3⟩
      · left
        simp [h, h2, h1, h3]
      · right
        refine ⟨i + 1, ?_, by simp; omega, by simp [h, h3]⟩
        simp [h, h2, h1]
        try omega
theorem index1_ok (c : UInt8) (l : List UInt8) (w : World) : Calls Tryz.prog 55 #[strV l, .string ⟨#[c]⟩] w fun e w' => e = .returned (.int .i64 (Lib.indexByte l c)) ∧ w' = w := by
  have HI := Lib.hid (fun w => ib_ok ⟨l.toArray⟩ (c.toNat : Int) w)
  have HC := Lib.hid (show ((c.toNat : Int).toNat.toUInt8) = c by simp)
  by_cases h : l = [c]
  · subst h
    have HX := Lib.hid (show Lib.indexByte [c] c = 0 by simp [Lib.indexByte])
    rw [HX.out]
    go_enter Tryz.func55, Tryz.ntmps55
    go_wp2_with fail
    go_ret
    exact ⟨rfl, rfl⟩
  · have hne : ([c] == l) = false := by simpa using fun e => h e.symm
    have hne2 : (l == [c]) = false := by simpa using h
    go_enter Tryz.func55, Tryz.ntmps55
    go_wp2_with fail
    refine (HI.out _).mono ?_
    rintro e w' ⟨rfl, rfl⟩
    go_wp2_with fail
    go_ret
    exact ⟨by simp only [HC.out]; rfl, rfl⟩
def CPost (c : UInt8) (l : List UInt8) (w : World) (e : Ending) (w' : World) : Prop := e = .returned (.tuple #[strV (cutC c l).1, strV (cutC c l).2.1, .bool (cutC c l).2.2]) ∧ ∃ n, w' = w.drewN n
theorem lcut_ok (c : UInt8) (l : List UInt8) (w : World) (hl : l.length ≤ 1000000000) : Calls Tryz.prog 33 #[strV l, .string ⟨#[c]⟩] w (CPost c l w) := by
  have HI := Lib.hid (fun w => index1_ok c l w)
  have hz := str_size l
  unfold CPost
  rcases ib_cut c l with ⟨h1, h2⟩ | ⟨i, h1, h3, h2⟩
  · rw [h1] at HI
    rw [h2]
    clear h1 h2
    go_enter Tryz.func33, Tryz.ntmps33
    go_wp2_with fail
    refine (HI.out _).mono ?_
    rintro e w' ⟨rfl, rfl⟩
    go_wp2_with fail
    go_ret3
    exact ⟨rfl, 0, rfl⟩
  · rw [h1] at HI
    rw [h2]
    have HA := Lib.hid (str_cut l 0 i)
    have HB := Lib.hid (str_cut l (i + 1) l.length)
    have hle : i ≤ l.length := by omega
    have hw1 : IntKind.i64.wrap ((i : Int) + 1) = (i : Int) + 1 := by rw [IntKind.wrap_i64]; omega
    clear h1 h2
    go_enter Tryz.func33, Tryz.ntmps33
    go_wp2_with fail
    refine (HI.out _).mono ?_
    rintro e w' ⟨rfl, rfl⟩
    go_wp2_with fail
    go_quiet (fail)
    go_wp2_with fail
    go_ret3
    refine ⟨?_, _, rfl⟩
    have e1 := HA.out
    have e2 := HB.out
    simp only [List.drop_zero, List.take_length] at e1 e2
    simp [← e1, ← e2, hz]
theorem cut_ok (c : UInt8) (l : List UInt8) (w : World) (hl : l.length ≤ 1000000000) : Calls Tryz.prog 19 #[strV l, .string ⟨#[c]⟩] w (CPost c l w) := by
  have HI := Lib.hid (fun w => lcut_ok c l w hl)
  go_enter Tryz.func19, Tryz.ntmps19
  go_wp2_with fail
  refine (HI.out _).mono ?_
  rintro e w' ⟨rfl, n, rfl⟩
  go_wp2_with fail
  go_ret3
  exact ⟨rfl, n, rfl⟩
end Go.Proofs.YtldjgpnbkbmgoaaGreatDoor

