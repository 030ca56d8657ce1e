/-
  Arguments opened: a slice of whatever elements, as a list. Conditions: none. Arguments opened: bytes. Conditions: none. Arguments opened: a request, with its text's size. Conditions: none. WireNeeds holds: for any request: the law returns true, and its argument reads as it did. Conditions: none. WireDecodes holds: for any bytes: the law returns true, and its argument reads as it did. Conditions: n
-/
import Derived.Test.YtldjgpnbkbmgoaaGreatDoorRows
import Derived.Test.YtldjgpnbkbmgoaaGreatDoorLib
import Derived.Test.YtldjgpnbkbmgoaaGreatDoorPlain
import Derived.Test.YtldjgpnbkbmgoaaGreatDoorBack
import Derived.Test.YtldjgpnbkbmgoaaGreatDoorRead
import Derived.Test.YtldjgpnbkbmgoaaGreatDoorQuote
import Derived.ProofKit
import Derived.Deep.Slices
import Derived.Deep.Fields
import Derived.ChangeSame
import Derived.SizedLaws
import Derived.Deep.DeepCutAuto
import Derived.Lib.Bytealg
import Derived.Laws.Externs
import Derived.Lib.Walk
set_option linter.unusedSimpArgs false
set_option linter.unusedVariables false
set_option maxRecDepth 100000
set_option maxHeartbeats 8000000
namespace Go.Proofs.YtldjgpnbkbmgoaaGreatDoor
open Go.RowKit Go.ChangeShapes Go.WideShapes Go.Deep
theorem lay_join {α : Type} {k : Nat} {enc : α → List Value} (hk : ∀ a, (enc a).length = k) {w : World} {b : Nat} : ∀ (l : List α) (off : Nat), (∀ i (hi : i < l.length), Lay w b (off + i * k) (enc l[i])) → Lay w b off (l.flatMap enc)
  | [], off, _ => fun j u hu => by simp at hu
  | a :: l, off, h => fun j u hu => by
    rw [List.flatMap_cons] at hu
    by_cases hj : j < (enc a).length
    · rw [List.getElem?_append_left hj] at hu
      have := h 0 (by simp) j u hu
      simpa using this
    · rw [List.getElem?_append_right (by omega)] at hu
      have h2 : Lay w b (off + k) (l.flatMap enc) := lay_join hk l (off + k) fun i hi => by
        have := h (i + 1) (by simpa using hi)
        rw [show off + k + i * k = off + (i + 1) * k by rw [Nat.add_mul]; omega]
        simpa using this
      have := h2 _ u hu
      rw [hk] at this
      rwa [show off + k + (j - k) = off + j by have := hk a; omega] at this
theorem add_form {a : Addr} {w : World} {j : Nat} {u : Value} (h : w.cell? a = some u) : a.add j = ⟨a.block, a.off + j, none⟩ ∧ a.spot = none := by
  obtain ⟨b, off, sp⟩ := a
  have hs : sp = none := by
    cases sp with
    | none => rfl
    | some s =>
      unfold World.cell? at h
      split at h <;> simp at h
  subst hs
  refine ⟨?_, rfl⟩
  unfold Addr.add
  split <;> simp_all
section
variable {H : Type} {enc : TypeId × Value → H} {P : Program} {w : World} {base : Nat} {spare : Nat → Bool} {held : Bool}
end
def Holds (w : World) (e : Ending) (w' : World) : Prop := e = .returned (.bool true) ∧ Below w.heap.size w w'
section
variable {H : Type} {enc : TypeId × Value → H} {P : Program}
theorem trodAll_len {w : World} {base : Nat} {spare : Nat → Bool} {held : Bool} : ∀ (ts : List TypeId) {vs : List Value} {ds : List (DataW H)} {ps : List MemPlace}, DataW.TrodAll enc P w base spare held ts vs ds ps → ds.length = ts.length
  | [], _, _, _, h => by obtain ⟨_, rfl, _⟩ := trodAll_nil h; rfl
  | t :: ts, _, _, _, h => by
    obtain ⟨v, vs, d, ds, p, q, rfl, rfl, rfl, h1, h2⟩ := trodAll_cons h
    simp [trodAll_len ts h2]
theorem trodAll_stays (hl : laidOutB P = true) {W W' : World} {sp : Nat → Bool} : ∀ (ts : List TypeId) {vs : List Value} {ds : List (DataW H)} {ps : List MemPlace}, (∀ t ∈ ts, P.readableRec t = true ∧ t < P.types.size) →
    DataW.TrodAll enc P W 0 (fun _ => true) true ts vs ds ps → (∀ p ∈ ps, W.sameAt W' p) → (∀ p ∈ ps, sp p.block = true) → DataW.TrodAll enc P W' 0 sp true ts vs ds ps
  | [], _, _, _, _, h, _, _ => by
    obtain ⟨rfl, rfl, rfl⟩ := trodAll_nil h
    exact trodAll_mk0
  | t :: ts, _, _, _, hts, h, hsame, hs => by
    obtain ⟨v, vs, d, ds, p, q, rfl, rfl, rfl, h1, h2⟩ := trodAll_cons h
    obtain ⟨hr, hrow⟩ := hts t (List.mem_cons_self ..)
    exact ⟨p, q, WideElems.Trod_stays hl hr hrow h1 (fun x hx => hsame x (List.mem_append.2 (.inl hx))) (fun x hx => hs x (List.mem_append.2 (.inl hx))),
      trodAll_stays hl ts (fun t ht => hts t (List.mem_cons_of_mem _ ht)) h2 (fun x hx => hsame x (List.mem_append.2 (.inr hx))) (fun x hx => hs x (List.mem_append.2 (.inr hx))), rfl⟩
theorem law_post (hl : laidOutB P = true) {f : Func} {s : ChangeSpec} {apart fresh handsOn : Bool} {W W' : World} {args : Array Value} {ds gs : List (DataW H)} {before : List MemPlace} {tb : TypeId}
    (hb : P.underlying tb = some .bool) (hr : f.resultTypes = #[tb]) (hts : ∀ t ∈ f.params.toList, P.readableRec t = true ∧ t < P.types.size) (hv : s.vars = [])
    (hspec : ∀ ds : List (DataW H), ds.length = f.params.toList.length → (s.fn H ds).results = [.lit (.bool true)] ∧ (s.fn H ds).args = ds ∧ (s.fn H ds).vars = [])
    (hW : DataW.Whole enc P f.params.toList s.vars apart W args.toList ds gs before) (hbel : Below W.heap.size W W') : s.post enc P f apart fresh handsOn false W args (.bool true) W' := by
  have hlt : ∀ p ∈ before, p.block < W.heap.size := fun p hp => hW.lt p hp
  have hW0 := hW
  obtain ⟨p, q, hA, hV, rfl, hfz, hnd⟩ := hW
  rw [hv] at hV
  obtain ⟨rfl, rfl⟩ := trodVars_none hV
  simp only [List.append_nil] at hlt
  obtain ⟨e1, e2, e3⟩ := hspec ds (trodAll_len _ hA)
  refine ⟨ds, [], p ++ [], [], p, [], hW0, ?_, ?_, ?_, ?_, fun h => by cases h⟩
  · rw [List.append_nil, e1, hr]
    exact trodAll_mk1 ⟨1, by simp [DataW.trod, Value.cells, hb]⟩
  · rw [List.append_nil, e2]
    exact trodAll_stays hl _ hts hA (fun x hx => hbel.same (hlt x hx)) (fun x hx => by simpa using hlt x hx)
  · rw [List.append_nil, e3, hv]
    trivial
  · exact World.keptBut_mono (fun x hx => ⟨hx, .inr (.inl (by simpa using hx))⟩) (hbel.frame (· ∈ p ++ []))
end
end Go.Proofs.YtldjgpnbkbmgoaaGreatDoor

namespace Go.Proofs.YtldjgpnbkbmgoaaGreatDoor
open Go.RowKit Go.ChangeShapes Go.WideShapes
theorem knob_none : ownKnob Tryz.prog.godebug = none := by kernel_rfl
theorem laid_out : laidOutB Tryz.prog = true := by kernel_rfl
section
variable {H : Type} {enc : TypeId × Value → H} {w : World} {base : Nat} {spare : Nat → Bool} {held : Bool}
theorem u8_of {n : Int} (h : (Lit.int .u8 n).wf = true) : ∃ b : UInt8, n = (b.toNat : Int) := by
  have h2 : (0 : Int) ≤ n ∧ n < 256 := by
    simp only [Lit.wf, Bool.and_eq_true, decide_eq_true_eq] at h
    have e1 : IntKind.u8.min = 0 := rfl
    have e2 : IntKind.u8.max = 255 := rfl
    omega
  refine ⟨UInt8.ofNat n.toNat, ?_⟩
  simp
  omega
end
end Go.Proofs.YtldjgpnbkbmgoaaGreatDoor

namespace Go.Proofs.YtldjgpnbkbmgoaaGreatDoor
open Go.RowKit Go.ChangeShapes Go.WideShapes
section
variable {H : Type} {enc : TypeId × Value → H} {P : Program}
end
section
variable {H : Type} {enc : TypeId × Value → H} {w : World} {base : Nat} {spare : Nat → Bool} {held : Bool}
theorem u64_of {n : Int} (h : (Lit.int .u64 n).wf = true) : ∃ b : Nat, n = (b : Int) ∧ b < 256 ^ 8 := by
  have h2 : (0 : Int) ≤ n ∧ n ≤ 18446744073709551615 := by
    simp only [Lit.wf, Bool.and_eq_true, decide_eq_true_eq] at h
    have e1 : IntKind.u64.min = 0 := rfl
    have e2 : IntKind.u64.max = 18446744073709551615 := rfl
    omega
  exact ⟨n.toNat, by omega, by omega⟩
end
end Go.Proofs.YtldjgpnbkbmgoaaGreatDoor

namespace Go.Proofs.YtldjgpnbkbmgoaaGreatDoor
open Go.RowKit Go.ChangeShapes Go.WideShapes Go.Lib
attribute [local go_sem ↓] load_req stop_req
structure RQ (w wx : World) (q : Req) : Prop where
  b0 : Blk wx w.heap.size 60 (rqC q)
  bel : Below w.heap.size w wx
theorem RQ.below {w wx wy : World} {q : Req} (h : RQ w wx q) (hb : Below wx.heap.size wx wy) : RQ w wy q := ⟨h.b0.below hb h.b0.lt, h.bel.trans (hb.mono h.bel.size)⟩
theorem RQ.new (w : World) (q : Req) : RQ w (w.alloc (.cells (rqC q) 60)) q := ⟨Blk.new w _ _, (Below.refl _ _).alloc (Nat.le_refl _) _⟩
theorem RQ.drew {w wx : World} {q : Req} (h : RQ w wx q) : RQ w wx.drew q := ⟨h.b0, below_drew h.bel⟩
end Go.Proofs.YtldjgpnbkbmgoaaGreatDoor

namespace Go.Proofs.YtldjgpnbkbmgoaaGreatDoor
open Go.RowKit Go.ChangeShapes Go.WideShapes Go.Lib
attribute [local go_sem ↓] load_req stop_req
end Go.Proofs.YtldjgpnbkbmgoaaGreatDoor

namespace Go.Proofs.YtldjgpnbkbmgoaaGreatDoor
open Go.RowKit
def Small (ws l : List Nat) : Prop := ∀ i, ws.getD i 8 ≤ 4 → l.getD i 0 ≤ 4611686018427387903
theorem no_blank_ns (ns : List Int) : ∀ w ∈ nsW ns, (32 : UInt8) ∉ w := fun w hw => by
  obtain ⟨x, _, rfl⟩ := List.mem_map.1 hw
  exact no_blank_txt _
def NoB (ws : List (List UInt8)) : Prop := ∀ w ∈ ws, (32 : UInt8) ∉ w
theorem NoB.ns (ns : List Int) : NoB (nsW ns) := no_blank_ns ns
theorem NoB.one {w : List UInt8} (h : (32 : UInt8) ∉ w) : NoB [w] := fun x hx => by
  simp only [List.mem_cons, List.not_mem_nil, or_false] at hx
  subst hx
  exact h
theorem NoB.nil : NoB [] := fun x hx => by cases hx
theorem NoB.app {a b : List (List UInt8)} (h : NoB a) (k : NoB b) : NoB (a ++ b) := fun w hw => by
  rcases List.mem_append.1 hw with hw | hw
  · exact h w hw
  · exact k w hw
end Go.Proofs.YtldjgpnbkbmgoaaGreatDoor

namespace Go.Proofs.YtldjgpnbkbmgoaaGreatDoor
structure HIt where
  kind : Int
  conn : Int
  bs : List UInt8
  draw : Nat
  n : Int
  q : Req
def zeroIt : HIt := ⟨0, 0, [], 0, 0, zeroR 0⟩
def thB (c : Int) : Bool := decide (0 ≤ c) && decide (c < 8)
def tickB (n : Int) : Bool := decide (0 ≤ n) && decide (n ≤ 4294967295)
def bareB (q : Req) : Bool := reqEq q (zeroR 0)
def itOk (x : HIt) : Bool :=
  if x.kind = 1 then thB x.conn && (decide (x.bs.length ≤ 500) && (decide (x.draw = 0) && (decide (x.n = 0) && bareB x.q)))
  else if x.kind = 2 then thB x.conn && (decide (x.bs.length = 0) && (decide (x.n = 0) && bareB x.q))
  else if x.kind = 3 then decide (x.conn = 0) && (decide (x.bs.length = 0) && (decide (x.draw = 0) && (tickB x.n && bareB x.q)))
  else if x.kind = 4 then thB x.conn && (decide (x.bs.length = 0) && (decide (x.n = 0) && encOk x.q))
  else false
def hexB (l : List UInt8) : List UInt8 := if l = [] then [45] else l.flatMap fun c => [hd (c.toNat / 16), hd (c.toNat % 16)]
def wFeed : List UInt8 := [102, 101, 101, 100]
def wPick : List UInt8 := [112, 105, 99, 107]
def wTick : List UInt8 := [116, 105, 99, 107]
def wAsk : List UInt8 := [97, 115, 107]
def wSecret : List UInt8 := [115, 101, 99, 114, 101, 116]
def smallT (n : Int) : List UInt8 := txt (u64n n)
def itT (x : HIt) : List UInt8 :=
  if x.kind = 1 then wFeed ++ 32 :: (smallT x.conn ++ 32 :: hexB x.bs)
  else if x.kind = 2 then wPick ++ 32 :: (smallT x.conn ++ 32 :: hexT x.draw)
  else if x.kind = 3 then wTick ++ 32 :: smallT x.n
  else wAsk ++ 32 :: (smallT x.conn ++ 32 :: (hexT x.draw ++ 32 :: lineT x.q))
def secT (s : Nat) : List UInt8 := wSecret ++ 32 :: hexT s
def jobOk (ss : List Nat) (xs : List HIt) : Bool := decide (1 ≤ ss.length) && (decide (ss.length ≤ 8) && (decide (xs.length ≤ 1000) && (ss.all (fun s => decide (s ≠ 0)) && xs.all itOk)))
def jobT (ss : List Nat) (xs : List HIt) : List UInt8 := (ss.flatMap fun s => secT s ++ [10]) ++ xs.flatMap fun x => itT x ++ [10]
def cutC (c : UInt8) : List UInt8 → List UInt8 × List UInt8 × Bool
  | [] => ([], [], false)
  | x :: r => if x = c then ([], r, true) else (x :: (cutC c r).1, (cutC c r).2.1, (cutC c r).2.2)
theorem cutC_some (c : UInt8) : ∀ (l : List UInt8), (cutC c l).2.2 = true → l = (cutC c l).1 ++ c :: (cutC c l).2.1 ∧ c ∉ (cutC c l).1
  | [], h => by simp [cutC] at h
  | x :: l, h => by
    unfold cutC at h ⊢
    split
    · rename_i e
      subst e
      simp
    · rename_i e
      rw [if_neg e] at h
      obtain ⟨h1, h2⟩ := cutC_some c l h
      refine ⟨?_, ?_⟩
      · simp only [List.cons_append]
        rw [← h1]
      · simp only [List.mem_cons, not_or]
        exact ⟨fun h => e h.symm, h2⟩
theorem cutC_len (c : UInt8) (l : List UInt8) (h : (cutC c l).2.2 = true) : (cutC c l).2.1.length < l.length := by
  have h1 := congrArg List.length (cutC_some c l h).1
  simp only [List.length_append, List.length_cons] at h1
  omega
abbrev HRd := List UInt8 × Bool
def rdNum (r : HRd) : Int × HRd :=
  let p := par (cutC 32 r.1).1
  if p.2 ≠ 0 ∨ 4294967295 < p.1 then (0, ((cutC 32 r.1).2.1, true)) else ((p.1 : Int), ((cutC 32 r.1).2.1, r.2))
def rdDraw (r : HRd) : Nat × HRd :=
  let p := rhex (cutC 32 r.1).1
  (p.1, ((cutC 32 r.1).2.1, r.2 || decide (p.2 ≠ 0)))
def unhF : List UInt8 → Option (List UInt8)
  | [] => some []
  | [_] => some []
  | a :: b :: r => if hv a < 16 ∧ hv b < 16 then (unhF r).map (UInt8.ofNat (16 * hv a + hv b) :: ·) else none
def unhex (w : List UInt8) : List UInt8 × Bool :=
  if w = [45] then ([], true) else
  match unhF w with
  | none => ([], false)
  | some l => (l, decide (0 < l.length) && decide (w.length % 2 = 0))
def rdBytes (r : HRd) : List UInt8 × HRd :=
  let p := unhex (cutC 32 r.1).1
  (p.1, ((cutC 32 r.1).2.1, r.2 || !p.2))
def itR (l : List UInt8) : HIt × Bool :=
  let r : HRd := ((cutC 32 l).2.1, false)
  let w := (cutC 32 l).1
  if w = wFeed then
    let a := rdNum r
    let b := rdBytes a.2
    ({ zeroIt with kind := 1, conn := a.1, bs := b.1 }, b.2.2)
  else if w = wPick then
    let a := rdNum r
    let b := rdDraw a.2
    ({ zeroIt with kind := 2, conn := a.1, draw := b.1 }, b.2.2)
  else if w = wTick then
    let a := rdNum r
    ({ zeroIt with kind := 3, n := a.1 }, a.2.2)
  else if w = wAsk then
    let a := rdNum r
    let b := rdDraw a.2
    let p := readQ b.2.1
    ({ zeroIt with kind := 4, conn := a.1, draw := b.1, q := p.1 }, b.2.2 || decide (p.2 ≠ 0))
  else (zeroIt, false)
def itL (l : List UInt8) : HIt × Bool := if (itR l).2 = false ∧ itOk (itR l).1 = true ∧ itT (itR l).1 = l then ((itR l).1, true) else (zeroIt, false)
def secL (l : List UInt8) : Nat × Bool :=
  let c := cutC 32 l
  let p := rhex c.2.1
  (p.1, decide (c.1 = wSecret) && (decide (p.2 = 0) && decide (p.1 ≠ 0)))
def Vis (l : List UInt8) : Prop := ∀ c ∈ l, 33 ≤ c.toNat
theorem Vis.no {l : List UInt8} (h : Vis l) {c : UInt8} (hc : c.toNat < 33) : c ∉ l := fun hm => by have := h c hm; omega
theorem Vis.app {a b : List UInt8} (h : Vis a) (k : Vis b) : Vis (a ++ b) := fun c hc => by
  rcases List.mem_append.1 hc with hc | hc
  · exact h c hc
  · exact k c hc
theorem vis_txt (n : Nat) : Vis (txt n) := fun c hc => by have := txtF_dig 19 n c hc; omega
def HIt.fits (x : HIt) : Prop := x.draw < 18446744073709551616
structure PRes where
  ss : List Nat
  xs : List HIt
  err : Int
  line : Nat
def parseF : Nat → Nat → List Nat → List HIt → List UInt8 → PRes
  | 0, row, _, _, _ => ⟨[], [], 60, row⟩
  | k + 1, row, ss, xs, s =>
    if s = [] then (if ss = [] then ⟨[], [], 60, row⟩ else ⟨ss, xs, 0, 0⟩)
    else if (cutC 10 s).2.2 = false then ⟨[], [], 60, row⟩
    else if (secL (cutC 10 s).1).2 = true ∧ xs = [] ∧ ss.length < 8 then parseF k (row + 1) (ss ++ [(secL (cutC 10 s).1).1]) xs (cutC 10 s).2.1
    else if (itL (cutC 10 s).1).2 = false ∨ ss = [] then ⟨[], [], 60, row⟩
    else if xs.length = 1000 then ⟨[], [], 2, row⟩
    else parseF k (row + 1) ss (xs ++ [(itL (cutC 10 s).1).1]) (cutC 10 s).2.1
def parse (s : List UInt8) : PRes := if 65536 < s.length then ⟨[], [], 2, 1⟩ else parseF (s.length + 1) 1 [] [] s
theorem vis_ns (ns : List Int) : ∀ w ∈ nsW ns, Vis w := fun w hw => by
  obtain ⟨x, _, rfl⟩ := List.mem_map.1 hw
  exact vis_txt _
def VisW (ws : List (List UInt8)) : Prop := ∀ w ∈ ws, Vis w
theorem VisW.ns (ns : List Int) : VisW (nsW ns) := vis_ns ns
theorem VisW.one {w : List UInt8} (h : Vis w) : VisW [w] := fun x hx => by
  simp only [List.mem_cons, List.not_mem_nil, or_false] at hx
  subst hx
  exact h
theorem VisW.nil : VisW [] := fun x hx => by cases hx
theorem VisW.app {a b : List (List UInt8)} (h : VisW a) (k : VisW b) : VisW (a ++ b) := fun w hw => by
  rcases List.mem_append.1 hw with hw | hw
  · exact h w hw
  · exact k w hw
def secsT (ss : List Nat) : List UInt8 := ss.flatMap fun s => secT s ++ [10]
def itsT (xs : List HIt) : List UInt8 := xs.flatMap fun x => itT x ++ [10]
theorem jobT_eq (ss : List Nat) (xs : List HIt) : jobT ss xs = secsT ss ++ itsT xs := rfl
theorem jobOk_iff (ss : List Nat) (xs : List HIt) : jobOk ss xs = true ↔ 1 ≤ ss.length ∧ ss.length ≤ 8 ∧ xs.length ≤ 1000 ∧ (∀ s ∈ ss, s ≠ 0) ∧ ∀ x ∈ xs, itOk x = true := by
  unfold jobOk
  simp only [Bool.and_eq_true, decide_eq_true_eq, List.all_eq_true]
structure PInv (ss : List Nat) (xs : List HIt) : Prop where
  s8 : ss.length ≤ 8
  s0 : ∀ s ∈ ss, s ≠ 0
  sl : ∀ s ∈ ss, s < 18446744073709551616
  x1 : xs.length ≤ 1000
  xo : ∀ x ∈ xs, itOk x = true ∧ x.fits
  ne : xs ≠ [] → ss ≠ []
theorem parseF_fuel : ∀ (k k' row : Nat) (ss : List Nat) (xs : List HIt) (s : List UInt8), s.length < k → s.length < k' → parseF k row ss xs s = parseF k' row ss xs s
  | 0, _, _, _, _, _, h, _ => by omega
  | _ + 1, 0, _, _, _, _, _, h => by omega
  | k + 1, k' + 1, row, ss, xs, s, h, h' => by
    unfold parseF
    by_cases h0 : s = []
    · rw [if_pos h0, if_pos h0]
    · rw [if_neg h0, if_neg h0]
      by_cases h1 : (cutC 10 s).2.2 = false
      · rw [if_pos h1, if_pos h1]
      · rw [if_neg h1, if_neg h1]
        have hl := cutC_len 10 s (by simpa using h1)
        rw [parseF_fuel k k' (row + 1) (ss ++ [(secL (cutC 10 s).1).1]) xs (cutC 10 s).2.1 (by omega) (by omega),
          parseF_fuel k k' (row + 1) ss (xs ++ [(itL (cutC 10 s).1).1]) (cutC 10 s).2.1 (by omega) (by omega)]
theorem parse_small {s : List UInt8} (h : s.length ≤ 65536) : parse s = parseF (s.length + 1) 1 [] [] s := by unfold parse; rw [if_neg (by omega)]
end Go.Proofs.YtldjgpnbkbmgoaaGreatDoor

namespace Go.Proofs.YtldjgpnbkbmgoaaGreatDoor
open Go.RowKit Go.Lib
theorem ib_ok (s : ByteArray) (c : Int) (w : World) : Calls Tryz.prog 93 #[.string s, .int .u8 c] w fun e w' => e = .returned (.int .i64 (Lib.indexByte s.data.toList c.toNat.toUInt8)) ∧ w' = w := by
  go_enter Tryz.func93, Tryz.ntmps93
  go_wp2
  rw [run_callFunc_extern Tryz.func129 (by kernel_rfl) (by kernel_rfl) (by kernel_rfl) (e := Extern.BytealgIndexByte.indexByte) (by kernel_rfl), Lib.run_indexByteString]
  simp only [Result.andThen]
  rw [Oper.upon_value]
  go_wp2
  go_ret
  exact ⟨rfl, rfl⟩
end Go.Proofs.YtldjgpnbkbmgoaaGreatDoor

