/-
  Arguments opened: a slice of whatever elements, as a list. Conditions: none. Arguments opened: bytes. Conditions: none. Arguments opened: a request, with its text's size. Conditions: none. WireNeeds holds: for any request: the law returns true, and its argument reads as it did. Conditions: none. WireDecodes holds: for any bytes: the law returns true, and its argument reads as it did. Conditions: n
-/
import Derived.Test.YtldjgpnbkbmgoaaGreatDoorRows
import Derived.Test.YtldjgpnbkbmgoaaGreatDoorLib
import Derived.Test.YtldjgpnbkbmgoaaGreatDoorPlain
import Derived.Test.YtldjgpnbkbmgoaaGreatDoorBack
import Derived.Test.YtldjgpnbkbmgoaaGreatDoorRead
import Derived.Test.YtldjgpnbkbmgoaaGreatDoorQuote
import Derived.ProofKit
import Derived.Deep.Slices
import Derived.Deep.Fields
import Derived.ChangeSame
import Derived.SizedLaws
import Derived.Deep.DeepCutAuto
import Derived.Lib.Bytealg
import Derived.Laws.Externs
import Derived.Lib.Walk
set_option linter.unusedSimpArgs false
set_option linter.unusedVariables false
set_option maxRecDepth 100000
set_option maxHeartbeats 8000000
namespace Go.Proofs.YtldjgpnbkbmgoaaGreatDoor
open Go.RowKit Go.ChangeShapes Go.WideShapes Go.Deep
theorem lay_join {α : Type} {k : Nat} {enc : α → List Value} (hk : ∀ a, (enc a).length = k) {w : World} {b : Nat} : ∀ (l : List α) (off : Nat), (∀ i (hi : i < l.length), Lay w b (off + i * k) (enc l[i])) → Lay w b off (l.flatMap enc)
  | [], off, _ => fun j u hu => by simp at hu
  | a :: l, off, h => fun j u hu => by
    rw [List.flatMap_cons] at hu
    by_cases hj : j < (enc a).length
    · rw [List.getElem?_append_left hj] at hu
      have := h 0 (by simp) j u hu
      simpa using this
    · rw [List.getElem?_append_right (by omega)] at hu
      have h2 : Lay w b (off + k) (l.flatMap enc) := lay_join hk l (off + k) fun i hi => by
        have := h (i + 1) (by simpa using hi)
        rw [show off + k + i * k = off + (i + 1) * k by rw [Nat.add_mul]; omega]
        simpa using this
      have := h2 _ u hu
      rw [hk] at this
      rwa [show off + k + (j - k) = off + j by have := hk a; omega] at this
theorem add_form {a : Addr} {w : World} {j : Nat} {u : Value} (h : w.cell? a = some u) : a.add j = ⟨a.block, a.off + j, none⟩ ∧ a.spot = none := by
  obtain ⟨b, off, sp⟩ := a
  have hs : sp = none := by
    cases sp with
    | none => rfl
    | some s =>
      unfold World.cell? at h
      split at h <;> simp at h
  subst hs
  refine ⟨?_, rfl⟩
  unfold Addr.add
  split <;> simp_all
section
variable {H : Type} {enc : TypeId × Value → H} {P : Program} {w : World} {base : Nat} {spare : Nat → Bool} {held : Bool}
end
def Holds (w : World) (e : Ending) (w' : World) : Prop := e = .returned (.bool true) ∧ Below w.heap.size w w'
section
variable {H : Type} {enc : TypeId × Value → H} {P : Program}
theorem trodAll_len {w : World} {base : Nat} {spare : Nat → Bool} {held : Bool} : ∀ (ts : List TypeId) {vs : List Value} {ds : List (DataW H)} {ps : List MemPlace}, DataW.TrodAll enc P w base spare held ts vs ds ps → ds.length = ts.length
  | [], _, _, _, h => by obtain ⟨_, rfl, _⟩ := trodAll_nil h; rfl
  | t :: ts, _, _, _, h => by
    obtain ⟨v, vs, d, ds, p, q, rfl, rfl, rfl, h1, h2⟩ := trodAll_cons h
    simp [trodAll_len ts h2]
theorem trodAll_stays (hl : laidOutB P = true) {W W' : World} {sp : Nat → Bool} : ∀ (ts : List TypeId) {vs : List Value} {ds : List (DataW H)} {ps : List MemPlace}, (∀ t ∈ ts, P.readableRec t = true ∧ t < P.types.size) →
    DataW.TrodAll enc P W 0 (fun _ => true) true ts vs ds ps → (∀ p ∈ ps, W.sameAt W' p) → (∀ p ∈ ps, sp p.block = true) → DataW.TrodAll enc P W' 0 sp true ts vs ds ps
  | [], _, _, _, _, h, _, _ => by
    obtain ⟨rfl, rfl, rfl⟩ := trodAll_nil h
    exact trodAll_mk0
  | t :: ts, _, _, _, hts, h, hsame, hs => by
    obtain ⟨v, vs, d, ds, p, q, rfl, rfl, rfl, h1, h2⟩ := trodAll_cons h
    obtain ⟨hr, hrow⟩ := hts t (List.mem_cons_self ..)
    exact ⟨p, q, WideElems.Trod_stays hl hr hrow h1 (fun x hx => hsame x (List.mem_append.2 (.inl hx))) (fun x hx => hs x (List.mem_append.2 (.inl hx))),
      trodAll_stays hl ts (fun t ht => hts t (List.mem_cons_of_mem _ ht)) h2 (fun x hx => hsame x (List.mem_append.2 (.inr hx))) (fun x hx => hs x (List.mem_append.2 (.inr hx))), rfl⟩
theorem law_post (hl : laidOutB P = true) {f : Func} {s : ChangeSpec} {apart fresh handsOn : Bool} {W W' : World} {args : Array Value} {ds gs : List (DataW H)} {before : List MemPlace} {tb : TypeId}
    (hb : P.underlying tb = some .bool) (hr : f.resultTypes = #[tb]) (hts : ∀ t ∈ f.params.toList, P.readableRec t = true ∧ t < P.types.size) (hv : s.vars = [])
    (hspec : ∀ ds : List (DataW H), ds.length = f.params.toList.length → (s.fn H ds).results = [.lit (.bool true)] ∧ (s.fn H ds).args = ds ∧ (s.fn H ds).vars = [])
    (hW : DataW.Whole enc P f.params.toList s.vars apart W args.toList ds gs before) (hbel : Below W.heap.size W W') : s.post enc P f apart fresh handsOn false W args (.bool true) W' := by
  have hlt : ∀ p ∈ before, p.block < W.heap.size := fun p hp => hW.lt p hp
  have hW0 := hW
  obtain ⟨p, q, hA, hV, rfl, hfz, hnd⟩ := hW
  rw [hv] at hV
  obtain ⟨rfl, rfl⟩ := trodVars_none hV
  simp only [List.append_nil] at hlt
  obtain ⟨e1, e2, e3⟩ := hspec ds (trodAll_len _ hA)
  refine ⟨ds, [], p ++ [], [], p, [], hW0, ?_, ?_, ?_, ?_, fun h => by cases h⟩
  · rw [List.append_nil, e1, hr]
    exact trodAll_mk1 ⟨1, by simp [DataW.trod, Value.cells, hb]⟩
  · rw [List.append_nil, e2]
    exact trodAll_stays hl _ hts hA (fun x hx => hbel.same (hlt x hx)) (fun x hx => by simpa using hlt x hx)
  · rw [List.append_nil, e3, hv]
    trivial
  · exact World.keptBut_mono (fun x hx => ⟨hx, .inr (.inl (by simpa using hx))⟩) (hbel.frame (· ∈ p ++ []))
end
end Go.Proofs.YtldjgpnbkbmgoaaGreatDoor

namespace Go.Proofs.YtldjgpnbkbmgoaaGreatDoor
open Go.RowKit Go.ChangeShapes Go.WideShapes
theorem knob_none : ownKnob Tryz.prog.godebug = none := by kernel_rfl
theorem laid_out : laidOutB Tryz.prog = true := by kernel_rfl
section
variable {H : Type} {enc : TypeId × Value → H} {w : World} {base : Nat} {spare : Nat → Bool} {held : Bool}
theorem u8_of {n : Int} (h : (Lit.int .u8 n).wf = true) : ∃ b : UInt8, n = (b.toNat : Int) := by
  have h2 : (0 : Int) ≤ n ∧ n < 256 := by
    simp only [Lit.wf, Bool.and_eq_true, decide_eq_true_eq] at h
    have e1 : IntKind.u8.min = 0 := rfl
    have e2 : IntKind.u8.max = 255 := rfl
    omega
  refine ⟨UInt8.ofNat n.toNat, ?_⟩
  simp
  omega
end
end Go.Proofs.YtldjgpnbkbmgoaaGreatDoor

namespace Go.Proofs.YtldjgpnbkbmgoaaGreatDoor
open Go.RowKit Go.ChangeShapes Go.WideShapes
section
variable {H : Type} {enc : TypeId × Value → H} {P : Program}
end
section
variable {H : Type} {enc : TypeId × Value → H} {w : World} {base : Nat} {spare : Nat → Bool} {held : Bool}
theorem u64_of {n : Int} (h : (Lit.int .u64 n).wf = true) : ∃ b : Nat, n = (b : Int) ∧ b < 256 ^ 8 := by
  have h2 : (0 : Int) ≤ n ∧ n ≤ 18446744073709551615 := by
    simp only [Lit.wf, Bool.and_eq_true, decide_eq_true_eq] at h
    have e1 : IntKind.u64.min = 0 := rfl
    have e2 : IntKind.u64.max = 18446744073709551615 := rfl
    omega
  exact ⟨n.toNat, by omega, by omega⟩
end
end Go.Proofs.YtldjgpnbkbmgoaaGreatDoor

namespace Go.Proofs.YtldjgpnbkbmgoaaGreatDoor
open Go.RowKit Go.ChangeShapes Go.WideShapes Go.Lib
attribute [local go_sem ↓] load_req stop_req
structure RQ (w wx : World) (q : Req) : Prop where
  b0 : Blk wx w.heap.size 60 (rqC q)
  bel : Below w.heap.size w wx
theorem RQ.below {w wx wy : World} {q : Req} (h : RQ w wx q) (hb : Below wx.heap.size wx wy) : RQ w wy q := ⟨h.b0.below hb h.b0.lt, h.bel.trans (hb.mono h.bel.size)⟩
theorem RQ.new (w : World) (q : Req) : RQ w (w.alloc (.cells (rqC q) 60)) q := ⟨Blk.new w _ _, (Below.refl _ _).alloc (Nat.le_refl _) _⟩
theorem RQ.drew {w wx : World} {q : Req} (h : RQ w wx q) : RQ w wx.drew q := ⟨h.b0, below_drew h.bel⟩
end Go.Proofs.YtldjgpnbkbmgoaaGreatDoor

namespace Go.Proofs.YtldjgpnbkbmgoaaGreatDoor
open Go.RowKit Go.ChangeShapes Go.WideShapes Go.Lib
attribute [local go_sem ↓] load_req stop_req
end Go.Proofs.YtldjgpnbkbmgoaaGreatDoor

namespace Go.Proofs.YtldjgpnbkbmgoaaGreatDoor
open Go.RowKit
theorem rNum_txt (n : Nat) (h : n ≤ 4611686018427387903) (r : List (List UInt8)) (b : Bool) : rNum (txt (u64n (n : Int)) :: r, b) = (n, (r, b)) := by
  have hp := par_txt n (by omega)
  rw [u64n_nat n (by omega)]
  unfold rNum rLong
  simp only [rW, hp]
  rw [if_neg (by omega)]
  simp
theorem rLong_txt (n : Nat) (h : n < 18446744073709551616) (r : List (List UInt8)) (b : Bool) : rLong (txt n :: r, b) = (n, (r, b)) := by
  have hp := par_txt n h
  unfold rLong
  simp only [rW, hp]
  simp
theorem rSec_hex (n : Nat) (h : n < 18446744073709551616) (r : List (List UInt8)) (b : Bool) : rSec (hexT n :: r, b) = (n, (r, b)) := by
  have hp := rhex_hex n h
  unfold rSec
  simp only [rW, hp]
  simp
theorem rTxt_quo (t : List UInt8) (r : List (List UInt8)) (b : Bool) : rTxt (quo t :: r, b) = (t, (r, b)) := by
  have hp := unq_quo t
  unfold rTxt
  simp only [rW, hp]
  simp
theorem nx1_txt {off : Nat} (L : Lens off) (q : Req) (n : Nat) (h : n ≤ 4611686018427387903) (r : List (List UInt8)) (b : Bool) : nx1 L (q, (txt (u64n (n : Int)) :: r, b)) = (L.set q (n : Int), (r, b)) := by
  unfold nx1
  rw [rNum_txt n h]
theorem tx1_txt (q : Req) (n : Nat) (h : n < 18446744073709551616) (r : List (List UInt8)) (b : Bool) : tx1 (q, (txt n :: r, b)) = ({ q with area := n }, (r, b)) := by
  unfold tx1
  rw [rLong_txt n h]
theorem hx1_hex (q : Req) (n : Nat) (h : n < 18446744073709551616) (r : List (List UInt8)) (b : Bool) : hx1 (q, (hexT n :: r, b)) = ({ q with other := n }, (r, b)) := by
  unfold hx1
  rw [rSec_hex n h]
theorem qx1_quo (q : Req) (t : List UInt8) (r : List (List UInt8)) (b : Bool) : qx1 (q, (quo t :: r, b)) = ({ q with txt := t }, (r, b)) := by
  unfold qx1
  rw [rTxt_quo]
theorem cut_sm : ∀ (ws : List Nat) (r : List UInt8) (i x : Nat), (cutN r ws)[i]? = some x → ws.getD i 8 ≤ 4 → x < 4294967296
  | [], r, i, x, h, _ => by simp [cutN] at h
  | y :: ws, r, 0, x, h, h4 => by
    simp only [cutN, List.getElem?_cons_zero, Option.some.injEq] at h
    have h4 : y ≤ 4 := by simpa using h4
    have h1 : (r.take y).length ≤ 4 := by simp; omega
    have := beNat_lt (r.take y).length (r.take y) rfl
    rw [h] at this
    exact Nat.lt_of_lt_of_le this (Nat.le_trans (Nat.pow_le_pow_right (by omega) h1) (by decide))
  | y :: ws, r, i + 1, x, h, h4 => by
    simp only [cutN, List.getElem?_cons_succ] at h
    exact cut_sm ws _ i x h (by simpa using h4)
theorem cut_lt8x : ∀ (ws : List Nat) (r : List UInt8) (i : Nat), (∀ x ∈ ws, 1 ≤ x ∧ x ≤ 8) → (cutN r ws).getD i 0 < 256 ^ 8
  | [], r, i, _ => by simp [cutN]
  | x :: ws, r, 0, h => by
    have hx := (h x (List.mem_cons_self ..)).2
    have h1 : (r.take x).length ≤ 8 := by simp; omega
    have := beNat_lt (r.take x).length (r.take x) rfl
    simp only [cutN, List.getD_cons_zero]
    exact Nat.lt_of_lt_of_le this (Nat.pow_le_pow_right (by omega) h1)
  | x :: ws, r, i + 1, h => by
    simp only [cutN, List.getD_cons_succ]
    exact cut_lt8x ws _ i fun y hy => h y (List.mem_cons_of_mem _ hy)
def Small (ws l : List Nat) : Prop := ∀ i, ws.getD i 8 ≤ 4 → l.getD i 0 ≤ 4611686018427387903
theorem cut_Small (r : List UInt8) (ws : List Nat) : Small ws (cutN r ws) := fun i hi => by
  rw [List.getD_eq_getElem?_getD]
  cases h : (cutN r ws)[i]? with
  | none => simp
  | some x =>
    have := cut_sm ws r i x h hi
    simp
    omega
theorem rF_back (h : Req) (v : List Nat) (t : List UInt8) (hop : isOp h.op = true) (hv : Small (widths h.op) v) (h6 : h.op = 6 → v.getD 0 0 < 18446744073709551616) (h7 : h.op = 7 → v.getD 1 0 < 18446744073709551616) :
    rF (h, (fieldsW (withR h v t), false)) = (withR h v t, ([], false)) := by
  have hh : (withR h v t).op = h.op := (withR_head _ _ _).op
  obtain ⟨op, e⟩ : ∃ op, h.op = op := ⟨_, rfl⟩
  rw [e] at hop hv h6 h7 hh
  rcases isOp_cases hop with rfl | rfl | rfl | rfl | rfl | rfl | rfl | rfl | rfl | rfl | rfl | rfl | rfl | rfl | rfl | rfl | rfl | rfl | rfl
  · -- 1
    have b0 := hv 0 (by decide)
    have b1 := hv 1 (by decide)
    have b2 := hv 2 (by decide)
    have b3 := hv 3 (by decide)
    have hw : withR h v t = { h with whom := v.getD 0 0, role := v.getD 1 0, tier := v.getD 2 0, quota := v.getD 3 0 } := by unfold withR; rw [if_pos e]
    have hf : fieldsW (withR h v t) = nsW [((v.getD 0 0 : Nat) : Int), ((v.getD 1 0 : Nat) : Int), ((v.getD 2 0 : Nat) : Int), ((v.getD 3 0 : Nat) : Int)] := by unfold fieldsW; rw [hh, hw]; rfl
    rw [hf]
    unfold rF
    rw [if_pos e, hw]
    simp only [nsW, List.map_cons, List.map_nil, nx1_txt _ _ _ b0, nx1_txt _ _ _ b1, nx1_txt _ _ _ b2, nx1_txt _ _ _ b3, LWhom, LRole, LTier, LQuota]
  · -- 2
    have b0 := hv 0 (by decide)
    have hw : withR h v t = { h with whom := v.getD 0 0 } := by unfold withR; rw [if_neg (show ¬ h.op = 1 by rw [e]; decide), if_pos e]
    have hf : fieldsW (withR h v t) = nsW [((v.getD 0 0 : Nat) : Int)] := by unfold fieldsW; rw [hh, hw]; rfl
    rw [hf]
    unfold rF
    rw [if_neg (show ¬ h.op = 1 by rw [e]; decide), if_pos e, hw]
    simp only [nsW, List.map_cons, List.map_nil, nx1_txt _ _ _ b0, LWhom]
  · -- 3
    have hw : withR h v t = { h with txt := t } := by unfold withR; rw [if_neg (show ¬ h.op = 1 by rw [e]; decide), if_neg (show ¬ h.op = 2 by rw [e]; decide), if_pos e]
    have hf : fieldsW (withR h v t) = [quo t] := by unfold fieldsW; rw [hh, hw]; rfl
    rw [hf]
    unfold rF
    rw [if_neg (show ¬ h.op = 1 by rw [e]; decide), if_neg (show ¬ h.op = 2 by rw [e]; decide), if_pos e, hw, qx1_quo]
  · -- 4
    have b0 := hv 0 (by decide)
    have b1 := hv 1 (by decide)
    have b2 := hv 2 (by decide)
    have hw : withR h v t = { h with whom := v.getD 0 0, rights := v.getD 1 0, til := v.getD 2 0 } := by unfold withR; rw [if_neg (show ¬ h.op = 1 by rw [e]; decide), if_neg (show ¬ h.op = 2 by rw [e]; decide), if_neg (show ¬ h.op = 3 by rw [e]; decide), if_pos e]
    have hf : fieldsW (withR h v t) = nsW [((v.getD 0 0 : Nat) : Int), ((v.getD 1 0 : Nat) : Int), ((v.getD 2 0 : Nat) : Int)] := by unfold fieldsW; rw [hh, hw]; rfl
    rw [hf]
    unfold rF
    rw [if_neg (show ¬ h.op = 1 by rw [e]; decide), if_neg (show ¬ h.op = 2 by rw [e]; decide), if_neg (show ¬ h.op = 3 by rw [e]; decide), if_pos e, hw]
    simp only [nsW, List.map_cons, List.map_nil, nx1_txt _ _ _ b0, nx1_txt _ _ _ b1, nx1_txt _ _ _ b2, LWhom, LRights, LTil]
  · -- 5
    have b0 := hv 0 (by decide)
    have b1 := hv 1 (by decide)
    have b2 := hv 2 (by decide)
    have b3 := hv 3 (by decide)
    have b4 := hv 4 (by decide)
    have b5 := hv 5 (by decide)
    have b6 := hv 6 (by decide)
    have hw : withR h v t = { h with rights := v.getD 0 0, zoom := v.getD 1 0, x0 := v.getD 2 0, y0 := v.getD 3 0, x1 := v.getD 4 0, y1 := v.getD 5 0, til := v.getD 6 0 } := by unfold withR; rw [if_neg (show ¬ h.op = 1 by rw [e]; decide), if_neg (show ¬ h.op = 2 by rw [e]; decide), if_neg (show ¬ h.op = 3 by rw [e]; decide), if_neg (show ¬ h.op = 4 by rw [e]; decide), if_pos e]
    have hf : fieldsW (withR h v t) = nsW [((v.getD 0 0 : Nat) : Int), ((v.getD 1 0 : Nat) : Int), ((v.getD 2 0 : Nat) : Int), ((v.getD 3 0 : Nat) : Int), ((v.getD 4 0 : Nat) : Int), ((v.getD 5 0 : Nat) : Int), ((v.getD 6 0 : Nat) : Int)] := by unfold fieldsW; rw [hh, hw]; rfl
    rw [hf]
    unfold rF
    rw [if_neg (show ¬ h.op = 1 by rw [e]; decide), if_neg (show ¬ h.op = 2 by rw [e]; decide), if_neg (show ¬ h.op = 3 by rw [e]; decide), if_neg (show ¬ h.op = 4 by rw [e]; decide), if_pos e, hw]
    simp only [nsW, List.map_cons, List.map_nil, nx1_txt _ _ _ b0, nx1_txt _ _ _ b1, nx1_txt _ _ _ b2, nx1_txt _ _ _ b3, nx1_txt _ _ _ b4, nx1_txt _ _ _ b5, nx1_txt _ _ _ b6, LRights, LZoom, LX0, LY0, LX1, LY1, LTil]
  · -- 6
    have hw : withR h v t = { h with other := v.getD 0 0 } := by unfold withR; rw [if_neg (show ¬ h.op = 1 by rw [e]; decide), if_neg (show ¬ h.op = 2 by rw [e]; decide), if_neg (show ¬ h.op = 3 by rw [e]; decide), if_neg (show ¬ h.op = 4 by rw [e]; decide), if_neg (show ¬ h.op = 5 by rw [e]; decide), if_pos e]
    have hf : fieldsW (withR h v t) = [hexT (v.getD 0 0)] := by unfold fieldsW; rw [hh, hw]; rfl
    rw [hf]
    unfold rF
    rw [if_neg (show ¬ h.op = 1 by rw [e]; decide), if_neg (show ¬ h.op = 2 by rw [e]; decide), if_neg (show ¬ h.op = 3 by rw [e]; decide), if_neg (show ¬ h.op = 4 by rw [e]; decide), if_neg (show ¬ h.op = 5 by rw [e]; decide), if_pos e, hw, hx1_hex _ _ (h6 rfl)]
  · -- 7
    have b0 := hv 0 (by decide)
    have hw : withR h v t = { h with pk := v.getD 0 0, area := v.getD 1 0 } := by unfold withR; rw [if_neg (show ¬ h.op = 1 by rw [e]; decide), if_neg (show ¬ h.op = 2 by rw [e]; decide), if_neg (show ¬ h.op = 3 by rw [e]; decide), if_neg (show ¬ h.op = 4 by rw [e]; decide), if_neg (show ¬ h.op = 5 by rw [e]; decide), if_neg (show ¬ h.op = 6 by rw [e]; decide), if_pos e]
    have hf : fieldsW (withR h v t) = [txt (u64n ((v.getD 0 0 : Nat) : Int)), txt (v.getD 1 0)] := by unfold fieldsW; rw [hh, hw]; rfl
    rw [hf]
    unfold rF
    rw [if_neg (show ¬ h.op = 1 by rw [e]; decide), if_neg (show ¬ h.op = 2 by rw [e]; decide), if_neg (show ¬ h.op = 3 by rw [e]; decide), if_neg (show ¬ h.op = 4 by rw [e]; decide), if_neg (show ¬ h.op = 5 by rw [e]; decide), if_neg (show ¬ h.op = 6 by rw [e]; decide), if_pos e, hw, nx1_txt _ _ _ b0, tx1_txt _ _ (h7 rfl)]
    rfl
  · -- 8
    have b0 := hv 0 (by decide)
    have b1 := hv 1 (by decide)
    have b2 := hv 2 (by decide)
    have hw : withR h v t = { h with ax := v.getD 0 0, ay := v.getD 1 0, label := v.getD 2 0 } := by unfold withR; rw [if_neg (show ¬ h.op = 1 by rw [e]; decide), if_neg (show ¬ h.op = 2 by rw [e]; decide), if_neg (show ¬ h.op = 3 by rw [e]; decide), if_neg (show ¬ h.op = 4 by rw [e]; decide), if_neg (show ¬ h.op = 5 by rw [e]; decide), if_neg (show ¬ h.op = 6 by rw [e]; decide), if_neg (show ¬ h.op = 7 by rw [e]; decide), if_pos e]
    have hf : fieldsW (withR h v t) = nsW [((v.getD 0 0 : Nat) : Int), ((v.getD 1 0 : Nat) : Int), ((v.getD 2 0 : Nat) : Int)] := by unfold fieldsW; rw [hh, hw]; rfl
    rw [hf]
    unfold rF
    rw [if_neg (show ¬ h.op = 1 by rw [e]; decide), if_neg (show ¬ h.op = 2 by rw [e]; decide), if_neg (show ¬ h.op = 3 by rw [e]; decide), if_neg (show ¬ h.op = 4 by rw [e]; decide), if_neg (show ¬ h.op = 5 by rw [e]; decide), if_neg (show ¬ h.op = 6 by rw [e]; decide), if_neg (show ¬ h.op = 7 by rw [e]; decide), if_pos e, hw]
    simp only [nsW, List.map_cons, List.map_nil, nx1_txt _ _ _ b0, nx1_txt _ _ _ b1, nx1_txt _ _ _ b2, LAx, LAy, LLabel]
  · -- 9
    have hw : withR h v t = h := by unfold withR; rw [if_neg (show ¬ h.op = 1 by rw [e]; decide), if_neg (show ¬ h.op = 2 by rw [e]; decide), if_neg (show ¬ h.op = 3 by rw [e]; decide), if_neg (show ¬ h.op = 4 by rw [e]; decide), if_neg (show ¬ h.op = 5 by rw [e]; decide), if_neg (show ¬ h.op = 6 by rw [e]; decide), if_neg (show ¬ h.op = 7 by rw [e]; decide), if_neg (show ¬ h.op = 8 by rw [e]; decide), if_neg (show ¬ h.op = 13 by rw [e]; decide), if_neg (show ¬ h.op = 14 by rw [e]; decide), if_neg (show ¬ h.op = 15 by rw [e]; decide), if_neg (show ¬ h.op = 16 by rw [e]; decide), if_neg (show ¬ h.op = 17 by rw [e]; decide), if_neg (show ¬ h.op = 19 by rw [e]; decide)]
    have hf : fieldsW (withR h v t) = [] := by unfold fieldsW; rw [hh]; rfl
    rw [hf]
    unfold rF
    rw [if_neg (show ¬ h.op = 1 by rw [e]; decide), if_neg (show ¬ h.op = 2 by rw [e]; decide), if_neg (show ¬ h.op = 3 by rw [e]; decide), if_neg (show ¬ h.op = 4 by rw [e]; decide), if_neg (show ¬ h.op = 5 by rw [e]; decide), if_neg (show ¬ h.op = 6 by rw [e]; decide), if_neg (show ¬ h.op = 7 by rw [e]; decide), if_neg (show ¬ h.op = 8 by rw [e]; decide), if_neg (show ¬ h.op = 13 by rw [e]; decide), if_neg (show ¬ h.op = 14 by rw [e]; decide), if_neg (show ¬ h.op = 15 by rw [e]; decide), if_neg (show ¬ h.op = 16 by rw [e]; decide), if_neg (show ¬ h.op = 17 by rw [e]; decide), if_neg (show ¬ h.op = 19 by rw [e]; decide), hw]
  · -- 10
    have hw : withR h v t = h := by unfold withR; rw [if_neg (show ¬ h.op = 1 by rw [e]; decide), if_neg (show ¬ h.op = 2 by rw [e]; decide), if_neg (show ¬ h.op = 3 by rw [e]; decide), if_neg (show ¬ h.op = 4 by rw [e]; decide), if_neg (show ¬ h.op = 5 by rw [e]; decide), if_neg (show ¬ h.op = 6 by rw [e]; decide), if_neg (show ¬ h.op = 7 by rw [e]; decide), if_neg (show ¬ h.op = 8 by rw [e]; decide), if_neg (show ¬ h.op = 13 by rw [e]; decide), if_neg (show ¬ h.op = 14 by rw [e]; decide), if_neg (show ¬ h.op = 15 by rw [e]; decide), if_neg (show ¬ h.op = 16 by rw [e]; decide), if_neg (show ¬ h.op = 17 by rw [e]; decide), if_neg (show ¬ h.op = 19 by rw [e]; decide)]
    have hf : fieldsW (withR h v t) = [] := by unfold fieldsW; rw [hh]; rfl
    rw [hf]
    unfold rF
    rw [if_neg (show ¬ h.op = 1 by rw [e]; decide), if_neg (show ¬ h.op = 2 by rw [e]; decide), if_neg (show ¬ h.op = 3 by rw [e]; decide), if_neg (show ¬ h.op = 4 by rw [e]; decide), if_neg (show ¬ h.op = 5 by rw [e]; decide), if_neg (show ¬ h.op = 6 by rw [e]; decide), if_neg (show ¬ h.op = 7 by rw [e]; decide), if_neg (show ¬ h.op = 8 by rw [e]; decide), if_neg (show ¬ h.op = 13 by rw [e]; decide), if_neg (show ¬ h.op = 14 by rw [e]; decide), if_neg (show ¬ h.op = 15 by rw [e]; decide), if_neg (show ¬ h.op = 16 by rw [e]; decide), if_neg (show ¬ h.op = 17 by rw [e]; decide), if_neg (show ¬ h.op = 19 by rw [e]; decide), hw]
  · -- 11
    have hw : withR h v t = h := by unfold withR; rw [if_neg (show ¬ h.op = 1 by rw [e]; decide), if_neg (show ¬ h.op = 2 by rw [e]; decide), if_neg (show ¬ h.op = 3 by rw [e]; decide), if_neg (show ¬ h.op = 4 by rw [e]; decide), if_neg (show ¬ h.op = 5 by rw [e]; decide), if_neg (show ¬ h.op = 6 by rw [e]; decide), if_neg (show ¬ h.op = 7 by rw [e]; decide), if_neg (show ¬ h.op = 8 by rw [e]; decide), if_neg (show ¬ h.op = 13 by rw [e]; decide), if_neg (show ¬ h.op = 14 by rw [e]; decide), if_neg (show ¬ h.op = 15 by rw [e]; decide), if_neg (show ¬ h.op = 16 by rw [e]; decide), if_neg (show ¬ h.op = 17 by rw [e]; decide), if_neg (show ¬ h.op = 19 by rw [e]; decide)]
    have hf : fieldsW (withR h v t) = [] := by unfold fieldsW; rw [hh]; rfl
    rw [hf]
    unfold rF
    rw [if_neg (show ¬ h.op = 1 by rw [e]; decide), if_neg (show ¬ h.op = 2 by rw [e]; decide), if_neg (show ¬ h.op = 3 by rw [e]; decide), if_neg (show ¬ h.op = 4 by rw [e]; decide), if_neg (show ¬ h.op = 5 by rw [e]; decide), if_neg (show ¬ h.op = 6 by rw [e]; decide), if_neg (show ¬ h.op = 7 by rw [e]; decide), if_neg (show ¬ h.op = 8 by rw [e]; decide), if_neg (show ¬ h.op = 13 by rw [e]; decide), if_neg (show ¬ h.op = 14 by rw [e]; decide), if_neg (show ¬ h.op = 15 by rw [e]; decide), if_neg (show ¬ h.op = 16 by rw [e]; decide), if_neg (show ¬ h.op = 17 by rw [e]; decide), if_neg (show ¬ h.op = 19 by rw [e]; decide), hw]
  · -- 12
    have hw : withR h v t = h := by unfold withR; rw [if_neg (show ¬ h.op = 1 by rw [e]; decide), if_neg (show ¬ h.op = 2 by rw [e]; decide), if_neg (show ¬ h.op = 3 by rw [e]; decide), if_neg (show ¬ h.op = 4 by rw [e]; decide), if_neg (show ¬ h.op = 5 by rw [e]; decide), if_neg (show ¬ h.op = 6 by rw [e]; decide), if_neg (show ¬ h.op = 7 by rw [e]; decide), if_neg (show ¬ h.op = 8 by rw [e]; decide), if_neg (show ¬ h.op = 13 by rw [e]; decide), if_neg (show ¬ h.op = 14 by rw [e]; decide), if_neg (show ¬ h.op = 15 by rw [e]; decide), if_neg (show ¬ h.op = 16 by rw [e]; decide), if_neg (show ¬ h.op = 17 by rw [e]; decide), if_neg (show ¬ h.op = 19 by rw [e]; decide)]
    have hf : fieldsW (withR h v t) = [] := by unfold fieldsW; rw [hh]; rfl
    rw [hf]
    unfold rF
    rw [if_neg (show ¬ h.op = 1 by rw [e]; decide), if_neg (show ¬ h.op = 2 by rw [e]; decide), if_neg (show ¬ h.op = 3 by rw [e]; decide), if_neg (show ¬ h.op = 4 by rw [e]; decide), if_neg (show ¬ h.op = 5 by rw [e]; decide), if_neg (show ¬ h.op = 6 by rw [e]; decide), if_neg (show ¬ h.op = 7 by rw [e]; decide), if_neg (show ¬ h.op = 8 by rw [e]; decide), if_neg (show ¬ h.op = 13 by rw [e]; decide), if_neg (show ¬ h.op = 14 by rw [e]; decide), if_neg (show ¬ h.op = 15 by rw [e]; decide), if_neg (show ¬ h.op = 16 by rw [e]; decide), if_neg (show ¬ h.op = 17 by rw [e]; decide), if_neg (show ¬ h.op = 19 by rw [e]; decide), hw]
  · -- 13
    have b0 := hv 0 (by decide)
    have b1 := hv 1 (by decide)
    have b2 := hv 2 (by decide)
    have b3 := hv 3 (by decide)
    have hw : withR h v t = { h with x0 := v.getD 0 0, y0 := v.getD 1 0, x1 := v.getD 2 0, y1 := v.getD 3 0 } := by unfold withR; rw [if_neg (show ¬ h.op = 1 by rw [e]; decide), if_neg (show ¬ h.op = 2 by rw [e]; decide), if_neg (show ¬ h.op = 3 by rw [e]; decide), if_neg (show ¬ h.op = 4 by rw [e]; decide), if_neg (show ¬ h.op = 5 by rw [e]; decide), if_neg (show ¬ h.op = 6 by rw [e]; decide), if_neg (show ¬ h.op = 7 by rw [e]; decide), if_neg (show ¬ h.op = 8 by rw [e]; decide), if_pos e]
    have hf : fieldsW (withR h v t) = nsW [((v.getD 0 0 : Nat) : Int), ((v.getD 1 0 : Nat) : Int), ((v.getD 2 0 : Nat) : Int), ((v.getD 3 0 : Nat) : Int)] := by unfold fieldsW; rw [hh, hw]; rfl
    rw [hf]
    unfold rF
    rw [if_neg (show ¬ h.op = 1 by rw [e]; decide), if_neg (show ¬ h.op = 2 by rw [e]; decide), if_neg (show ¬ h.op = 3 by rw [e]; decide), if_neg (show ¬ h.op = 4 by rw [e]; decide), if_neg (show ¬ h.op = 5 by rw [e]; decide), if_neg (show ¬ h.op = 6 by rw [e]; decide), if_neg (show ¬ h.op = 7 by rw [e]; decide), if_neg (show ¬ h.op = 8 by rw [e]; decide), if_pos e, hw]
    simp only [nsW, List.map_cons, List.map_nil, nx1_txt _ _ _ b0, nx1_txt _ _ _ b1, nx1_txt _ _ _ b2, nx1_txt _ _ _ b3, LX0, LY0, LX1, LY1]
  · -- 14
    have b0 := hv 0 (by decide)
    have b1 := hv 1 (by decide)
    have hw : withR h v t = { h with ax := v.getD 0 0, ay := v.getD 1 0 } := by unfold withR; rw [if_neg (show ¬ h.op = 1 by rw [e]; decide), if_neg (show ¬ h.op = 2 by rw [e]; decide), if_neg (show ¬ h.op = 3 by rw [e]; decide), if_neg (show ¬ h.op = 4 by rw [e]; decide), if_neg (show ¬ h.op = 5 by rw [e]; decide), if_neg (show ¬ h.op = 6 by rw [e]; decide), if_neg (show ¬ h.op = 7 by rw [e]; decide), if_neg (show ¬ h.op = 8 by rw [e]; decide), if_neg (show ¬ h.op = 13 by rw [e]; decide), if_pos e]
    have hf : fieldsW (withR h v t) = nsW [((v.getD 0 0 : Nat) : Int), ((v.getD 1 0 : Nat) : Int)] := by unfold fieldsW; rw [hh, hw]; rfl
    rw [hf]
    unfold rF
    rw [if_neg (show ¬ h.op = 1 by rw [e]; decide), if_neg (show ¬ h.op = 2 by rw [e]; decide), if_neg (show ¬ h.op = 3 by rw [e]; decide), if_neg (show ¬ h.op = 4 by rw [e]; decide), if_neg (show ¬ h.op = 5 by rw [e]; decide), if_neg (show ¬ h.op = 6 by rw [e]; decide), if_neg (show ¬ h.op = 7 by rw [e]; decide), if_neg (show ¬ h.op = 8 by rw [e]; decide), if_neg (show ¬ h.op = 13 by rw [e]; decide), if_pos e, hw]
    simp only [nsW, List.map_cons, List.map_nil, nx1_txt _ _ _ b0, nx1_txt _ _ _ b1, LAx, LAy]
  · -- 15
    have b0 := hv 0 (by decide)
    have b1 := hv 1 (by decide)
    have b2 := hv 2 (by decide)
    have b3 := hv 3 (by decide)
    have hw : withR h v t = { h with x0 := v.getD 0 0, y0 := v.getD 1 0, x1 := v.getD 2 0, y1 := v.getD 3 0 } := by unfold withR; rw [if_neg (show ¬ h.op = 1 by rw [e]; decide), if_neg (show ¬ h.op = 2 by rw [e]; decide), if_neg (show ¬ h.op = 3 by rw [e]; decide), if_neg (show ¬ h.op = 4 by rw [e]; decide), if_neg (show ¬ h.op = 5 by rw [e]; decide), if_neg (show ¬ h.op = 6 by rw [e]; decide), if_neg (show ¬ h.op = 7 by rw [e]; decide), if_neg (show ¬ h.op = 8 by rw [e]; decide), if_neg (show ¬ h.op = 13 by rw [e]; decide), if_neg (show ¬ h.op = 14 by rw [e]; decide), if_pos e]
    have hf : fieldsW (withR h v t) = nsW [((v.getD 0 0 : Nat) : Int), ((v.getD 1 0 : Nat) : Int), ((v.getD 2 0 : Nat) : Int), ((v.getD 3 0 : Nat) : Int)] := by unfold fieldsW; rw [hh, hw]; rfl
    rw [hf]
    unfold rF
    rw [if_neg (show ¬ h.op = 1 by rw [e]; decide), if_neg (show ¬ h.op = 2 by rw [e]; decide), if_neg (show ¬ h.op = 3 by rw [e]; decide), if_neg (show ¬ h.op = 4 by rw [e]; decide), if_neg (show ¬ h.op = 5 by rw [e]; decide), if_neg (show ¬ h.op = 6 by rw [e]; decide), if_neg (show ¬ h.op = 7 by rw [e]; decide), if_neg (show ¬ h.op = 8 by rw [e]; decide), if_neg (show ¬ h.op = 13 by rw [e]; decide), if_neg (show ¬ h.op = 14 by rw [e]; decide), if_pos e, hw]
    simp only [nsW, List.map_cons, List.map_nil, nx1_txt _ _ _ b0, nx1_txt _ _ _ b1, nx1_txt _ _ _ b2, nx1_txt _ _ _ b3, LX0, LY0, LX1, LY1]
  · -- 16
    have b0 := hv 0 (by decide)
    have b1 := hv 1 (by decide)
    have hw : withR h v t = { h with ax := v.getD 0 0, ay := v.getD 1 0 } := by unfold withR; rw [if_neg (show ¬ h.op = 1 by rw [e]; decide), if_neg (show ¬ h.op = 2 by rw [e]; decide), if_neg (show ¬ h.op = 3 by rw [e]; decide), if_neg (show ¬ h.op = 4 by rw [e]; decide), if_neg (show ¬ h.op = 5 by rw [e]; decide), if_neg (show ¬ h.op = 6 by rw [e]; decide), if_neg (show ¬ h.op = 7 by rw [e]; decide), if_neg (show ¬ h.op = 8 by rw [e]; decide), if_neg (show ¬ h.op = 13 by rw [e]; decide), if_neg (show ¬ h.op = 14 by rw [e]; decide), if_neg (show ¬ h.op = 15 by rw [e]; decide), if_pos e]
    have hf : fieldsW (withR h v t) = nsW [((v.getD 0 0 : Nat) : Int), ((v.getD 1 0 : Nat) : Int)] := by unfold fieldsW; rw [hh, hw]; rfl
    rw [hf]
    unfold rF
    rw [if_neg (show ¬ h.op = 1 by rw [e]; decide), if_neg (show ¬ h.op = 2 by rw [e]; decide), if_neg (show ¬ h.op = 3 by rw [e]; decide), if_neg (show ¬ h.op = 4 by rw [e]; decide), if_neg (show ¬ h.op = 5 by rw [e]; decide), if_neg (show ¬ h.op = 6 by rw [e]; decide), if_neg (show ¬ h.op = 7 by rw [e]; decide), if_neg (show ¬ h.op = 8 by rw [e]; decide), if_neg (show ¬ h.op = 13 by rw [e]; decide), if_neg (show ¬ h.op = 14 by rw [e]; decide), if_neg (show ¬ h.op = 15 by rw [e]; decide), if_pos e, hw]
    simp only [nsW, List.map_cons, List.map_nil, nx1_txt _ _ _ b0, nx1_txt _ _ _ b1, LAx, LAy]
  · -- 17
    have b0 := hv 0 (by decide)
    have hw : withR h v t = { h with frm := v.getD 0 0 } := by unfold withR; rw [if_neg (show ¬ h.op = 1 by rw [e]; decide), if_neg (show ¬ h.op = 2 by rw [e]; decide), if_neg (show ¬ h.op = 3 by rw [e]; decide), if_neg (show ¬ h.op = 4 by rw [e]; decide), if_neg (show ¬ h.op = 5 by rw [e]; decide), if_neg (show ¬ h.op = 6 by rw [e]; decide), if_neg (show ¬ h.op = 7 by rw [e]; decide), if_neg (show ¬ h.op = 8 by rw [e]; decide), if_neg (show ¬ h.op = 13 by rw [e]; decide), if_neg (show ¬ h.op = 14 by rw [e]; decide), if_neg (show ¬ h.op = 15 by rw [e]; decide), if_neg (show ¬ h.op = 16 by rw [e]; decide), if_pos e]
    have hf : fieldsW (withR h v t) = nsW [((v.getD 0 0 : Nat) : Int)] := by unfold fieldsW; rw [hh, hw]; rfl
    rw [hf]
    unfold rF
    rw [if_neg (show ¬ h.op = 1 by rw [e]; decide), if_neg (show ¬ h.op = 2 by rw [e]; decide), if_neg (show ¬ h.op = 3 by rw [e]; decide), if_neg (show ¬ h.op = 4 by rw [e]; decide), if_neg (show ¬ h.op = 5 by rw [e]; decide), if_neg (show ¬ h.op = 6 by rw [e]; decide), if_neg (show ¬ h.op = 7 by rw [e]; decide), if_neg (show ¬ h.op = 8 by rw [e]; decide), if_neg (show ¬ h.op = 13 by rw [e]; decide), if_neg (show ¬ h.op = 14 by rw [e]; decide), if_neg (show ¬ h.op = 15 by rw [e]; decide), if_neg (show ¬ h.op = 16 by rw [e]; decide), if_pos e, hw]
    simp only [nsW, List.map_cons, List.map_nil, nx1_txt _ _ _ b0, LFrm]
  · -- 18
    have hw : withR h v t = h := by unfold withR; rw [if_neg (show ¬ h.op = 1 by rw [e]; decide), if_neg (show ¬ h.op = 2 by rw [e]; decide), if_neg (show ¬ h.op = 3 by rw [e]; decide), if_neg (show ¬ h.op = 4 by rw [e]; decide), if_neg (show ¬ h.op = 5 by rw [e]; decide), if_neg (show ¬ h.op = 6 by rw [e]; decide), if_neg (show ¬ h.op = 7 by rw [e]; decide), if_neg (show ¬ h.op = 8 by rw [e]; decide), if_neg (show ¬ h.op = 13 by rw [e]; decide), if_neg (show ¬ h.op = 14 by rw [e]; decide), if_neg (show ¬ h.op = 15 by rw [e]; decide), if_neg (show ¬ h.op = 16 by rw [e]; decide), if_neg (show ¬ h.op = 17 by rw [e]; decide), if_neg (show ¬ h.op = 19 by rw [e]; decide)]
    have hf : fieldsW (withR h v t) = [] := by unfold fieldsW; rw [hh]; rfl
    rw [hf]
    unfold rF
    rw [if_neg (show ¬ h.op = 1 by rw [e]; decide), if_neg (show ¬ h.op = 2 by rw [e]; decide), if_neg (show ¬ h.op = 3 by rw [e]; decide), if_neg (show ¬ h.op = 4 by rw [e]; decide), if_neg (show ¬ h.op = 5 by rw [e]; decide), if_neg (show ¬ h.op = 6 by rw [e]; decide), if_neg (show ¬ h.op = 7 by rw [e]; decide), if_neg (show ¬ h.op = 8 by rw [e]; decide), if_neg (show ¬ h.op = 13 by rw [e]; decide), if_neg (show ¬ h.op = 14 by rw [e]; decide), if_neg (show ¬ h.op = 15 by rw [e]; decide), if_neg (show ¬ h.op = 16 by rw [e]; decide), if_neg (show ¬ h.op = 17 by rw [e]; decide), if_neg (show ¬ h.op = 19 by rw [e]; decide), hw]
  · -- 19
    have b0 := hv 0 (by decide)
    have b1 := hv 1 (by decide)
    have hw : withR h v t = { h with whom := v.getD 0 0, quota := v.getD 1 0 } := by unfold withR; rw [if_neg (show ¬ h.op = 1 by rw [e]; decide), if_neg (show ¬ h.op = 2 by rw [e]; decide), if_neg (show ¬ h.op = 3 by rw [e]; decide), if_neg (show ¬ h.op = 4 by rw [e]; decide), if_neg (show ¬ h.op = 5 by rw [e]; decide), if_neg (show ¬ h.op = 6 by rw [e]; decide), if_neg (show ¬ h.op = 7 by rw [e]; decide), if_neg (show ¬ h.op = 8 by rw [e]; decide), if_neg (show ¬ h.op = 13 by rw [e]; decide), if_neg (show ¬ h.op = 14 by rw [e]; decide), if_neg (show ¬ h.op = 15 by rw [e]; decide), if_neg (show ¬ h.op = 16 by rw [e]; decide), if_neg (show ¬ h.op = 17 by rw [e]; decide), if_pos e]
    have hf : fieldsW (withR h v t) = nsW [((v.getD 0 0 : Nat) : Int), ((v.getD 1 0 : Nat) : Int)] := by unfold fieldsW; rw [hh, hw]; rfl
    rw [hf]
    unfold rF
    rw [if_neg (show ¬ h.op = 1 by rw [e]; decide), if_neg (show ¬ h.op = 2 by rw [e]; decide), if_neg (show ¬ h.op = 3 by rw [e]; decide), if_neg (show ¬ h.op = 4 by rw [e]; decide), if_neg (show ¬ h.op = 5 by rw [e]; decide), if_neg (show ¬ h.op = 6 by rw [e]; decide), if_neg (show ¬ h.op = 7 by rw [e]; decide), if_neg (show ¬ h.op = 8 by rw [e]; decide), if_neg (show ¬ h.op = 13 by rw [e]; decide), if_neg (show ¬ h.op = 14 by rw [e]; decide), if_neg (show ¬ h.op = 15 by rw [e]; decide), if_neg (show ¬ h.op = 16 by rw [e]; decide), if_neg (show ¬ h.op = 17 by rw [e]; decide), if_pos e, hw]
    simp only [nsW, List.map_cons, List.map_nil, nx1_txt _ _ _ b0, nx1_txt _ _ _ b1, LWhom, LQuota]
theorem no_blank_ns (ns : List Int) : ∀ w ∈ nsW ns, (32 : UInt8) ∉ w := fun w hw => by
  obtain ⟨x, _, rfl⟩ := List.mem_map.1 hw
  exact no_blank_txt _
theorem no_blank_ops : ∀ w ∈ opsL, (32 : UInt8) ∉ w := by decide
theorem no_blank_op (op : Int) : (32 : UInt8) ∉ opW op := by
  unfold opW
  split
  · rw [List.getD_eq_getElem?_getD]
    cases h : opsL[(op - 1).toNat]? with
    | none => simp
    | some w => exact no_blank_ops w (List.mem_of_getElem? h)
  · simp
def NoB (ws : List (List UInt8)) : Prop := ∀ w ∈ ws, (32 : UInt8) ∉ w
theorem NoB.ns (ns : List Int) : NoB (nsW ns) := no_blank_ns ns
theorem NoB.one {w : List UInt8} (h : (32 : UInt8) ∉ w) : NoB [w] := fun x hx => by
  simp only [List.mem_cons, List.not_mem_nil, or_false] at hx
  subst hx
  exact h
theorem NoB.nil : NoB [] := fun x hx => by cases hx
theorem NoB.app {a b : List (List UInt8)} (h : NoB a) (k : NoB b) : NoB (a ++ b) := fun w hw => by
  rcases List.mem_append.1 hw with hw | hw
  · exact h w hw
  · exact k w hw
theorem fields_nob (q : Req) : NoB (fieldsW q) := by
  unfold fieldsW
  refine ite_W (p := NoB) (.ns _) ?_
  refine ite_W (p := NoB) (.ns _) ?_
  refine ite_W (p := NoB) (.one (no_blank_quo _)) ?_
  refine ite_W (p := NoB) (.ns _) ?_
  refine ite_W (p := NoB) (.app (.app (.ns _) (.ns _)) (.ns _)) ?_
  refine ite_W (p := NoB) (.one (no_blank_hex _)) ?_
  refine ite_W (p := NoB) (.app (.ns _) (.one (no_blank_txt _))) ?_
  refine ite_W (p := NoB) (.ns _) ?_
  refine ite_W (p := NoB) (.ns _) ?_
  refine ite_W (p := NoB) (.ns _) ?_
  refine ite_W (p := NoB) (.ns _) ?_
  refine ite_W (p := NoB) (.ns _) ?_
  refine ite_W (p := NoB) (.ns _) ?_
  refine ite_W (p := NoB) (.ns _) ?_
  exact .nil
theorem splitL_line (q : Req) : splitL (lineQ q) = lineW q := by
  unfold lineQ
  refine split_join _ (by simp [lineW, headW, nsW]) ?_
  unfold lineW headW
  exact NoB.app (.app (.app (.app (.ns _) (.one (no_blank_hex _))) (.ns _)) (.one (no_blank_op _))) (fields_nob q)
theorem atF_op {op : Int} (h : isOp op = true) : atF (opW op) 0 opsL + 1 = op := by
  rcases isOp_cases h with rfl | rfl | rfl | rfl | rfl | rfl | rfl | rfl | rfl | rfl | rfl | rfl | rfl | rfl | rfl | rfl | rfl | rfl | rfl <;> decide +kernel
theorem read_line {q : Req} (h : encOk q = true) : readQ (lineQ q) = (q, 0) := by
  obtain ⟨hg, hq⟩ := enc_good h
  have hop := hg.op
  obtain ⟨l, hl⟩ : ∃ l, l = encL q := ⟨_, rfl⟩
  rw [← hl] at hg hq hop
  obtain ⟨hq0, hh0⟩ : ∃ hq0, headR l = hq0 := ⟨_, rfl⟩
  have hs : hq0.secret < 18446744073709551616 := by
    rw [← hh0]
    have h1 : ((l.drop 4).take 8).length ≤ 8 := by simp; omega
    have := beNat_lt ((l.drop 4).take 8).length ((l.drop 4).take 8) rfl
    exact Nat.lt_of_lt_of_le this (Nat.le_trans (Nat.pow_le_pow_right (by omega) h1) (by decide))
  have ht : ∃ n : Nat, hq0.tenant = n ∧ n ≤ 4611686018427387903 := ⟨_, by rw [← hh0]; rfl, by have := byN_lt l 1; omega⟩
  have hu : ∃ n : Nat, hq0.user = n ∧ n ≤ 4611686018427387903 := ⟨256 * byN l 2 + byN l 3, by rw [← hh0]; simp [headR], by have := byN_lt l 2; have := byN_lt l 3; omega⟩
  have hm : ∃ n : Nat, hq0.m = n ∧ n ≤ 4611686018427387903 := ⟨_, by rw [← hh0]; rfl, by have := byN_lt l 12; omega⟩
  have hz : hq0 = { zeroR hq0.op with tenant := hq0.tenant, user := hq0.user, secret := hq0.secret, m := hq0.m } := by rw [← hh0]; rfl
  obtain ⟨tn, ht, bt⟩ := ht
  obtain ⟨un, hu, bu⟩ := hu
  obtain ⟨mn, hm, bm⟩ := hm
  have hqr : q = withR hq0 (cutN (l.drop 13) (widths hq0.op)) (if hq0.op = 3 then l.drop 13 else []) := by rw [← hh0]; exact hq
  rw [hh0] at hop
  have hd := withR_head hq0 (cutN (l.drop 13) (widths hq0.op)) (if hq0.op = 3 then l.drop 13 else [])
  rw [← hqr] at hd
  have hlw : lineW q = txt (u64n (tn : Int)) :: txt (u64n (un : Int)) :: hexT hq0.secret :: txt (u64n (mn : Int)) :: opW hq0.op :: fieldsW q := by
    unfold lineW headW
    rw [hd.tenant, hd.user, hd.secret, hd.m, hd.op, ht, hu, hm]
    rfl
  have hz2 : ({ zeroR hq0.op with tenant := (tn : Int), user := (un : Int), secret := hq0.secret, m := (mn : Int) } : Req) = hq0 := by rw [← ht, ← hu, ← hm]; exact hz.symm
  have hb := rF_back hq0 (cutN (l.drop 13) (widths hq0.op)) (if hq0.op = 3 then l.drop 13 else []) hop (cut_Small _ _)
    (fun e => by rw [e]; exact Nat.lt_of_lt_of_le (cut_lt8x [8] (l.drop 13) 0 (by decide)) (by decide))
    (fun e => by rw [e]; exact Nat.lt_of_lt_of_le (cut_lt8x [2, 8] (l.drop 13) 1 (by decide)) (by decide))
  rw [← hqr] at hb
  have hr : readS (lineQ q) = (q, ([], false)) := by
    unfold readS
    simp only [splitL_line, hlw, rNum_txt _ bt, rNum_txt _ bu, rSec_hex _ hs, rNum_txt _ bm, rW]
    rw [atF_op hop, hz2]
    exact hb
  unfold readQ
  rw [hr]
  exact if_pos ⟨rfl, h, rfl⟩
end Go.Proofs.YtldjgpnbkbmgoaaGreatDoor

namespace Go.Proofs.YtldjgpnbkbmgoaaGreatDoor
structure HIt where
  kind : Int
  conn : Int
  bs : List UInt8
  draw : Nat
  n : Int
  q : Req
def zeroIt : HIt := ⟨0, 0, [], 0, 0, zeroR 0⟩
def thB (c : Int) : Bool := decide (0 ≤ c) && decide (c < 8)
def tickB (n : Int) : Bool := decide (0 ≤ n) && decide (n ≤ 4294967295)
def bareB (q : Req) : Bool := reqEq q (zeroR 0)
def itOk (x : HIt) : Bool :=
  if x.kind = 1 then thB x.conn && (decide (x.bs.length ≤ 500) && (decide (x.draw = 0) && (decide (x.n = 0) && bareB x.q)))
  else if x.kind = 2 then thB x.conn && (decide (x.bs.length = 0) && (decide (x.n = 0) && bareB x.q))
  else if x.kind = 3 then decide (x.conn = 0) && (decide (x.bs.length = 0) && (decide (x.draw = 0) && (tickB x.n && bareB x.q)))
  else if x.kind = 4 then thB x.conn && (decide (x.bs.length = 0) && (decide (x.n = 0) && encOk x.q))
  else false
def hexB (l : List UInt8) : List UInt8 := if l = [] then [45] else l.flatMap fun c => [hd (c.toNat / 16), hd (c.toNat % 16)]
def wFeed : List UInt8 := [102, 101, 101, 100]
def wPick : List UInt8 := [112, 105, 99, 107]
def wTick : List UInt8 := [116, 105, 99, 107]
def wAsk : List UInt8 := [97, 115, 107]
def wSecret : List UInt8 := [115, 101, 99, 114, 101, 116]
def smallT (n : Int) : List UInt8 := txt (u64n n)
def itT (x : HIt) : List UInt8 :=
  if x.kind = 1 then wFeed ++ 32 :: (smallT x.conn ++ 32 :: hexB x.bs)
  else if x.kind = 2 then wPick ++ 32 :: (smallT x.conn ++ 32 :: hexT x.draw)
  else if x.kind = 3 then wTick ++ 32 :: smallT x.n
  else wAsk ++ 32 :: (smallT x.conn ++ 32 :: (hexT x.draw ++ 32 :: lineT x.q))
def secT (s : Nat) : List UInt8 := wSecret ++ 32 :: hexT s
def jobOk (ss : List Nat) (xs : List HIt) : Bool := decide (1 ≤ ss.length) && (decide (ss.length ≤ 8) && (decide (xs.length ≤ 1000) && (ss.all (fun s => decide (s ≠ 0)) && xs.all itOk)))
def jobT (ss : List Nat) (xs : List HIt) : List UInt8 := (ss.flatMap fun s => secT s ++ [10]) ++ xs.flatMap fun x => itT x ++ [10]
def cutC (c : UInt8) : List UInt8 → List UInt8 × List UInt8 × Bool
  | [] => ([], [], false)
  | x :: r => if x = c then ([], r, true) else (x :: (cutC c r).1, (cutC c r).2.1, (cutC c r).2.2)
theorem cutC_app (c : UInt8) : ∀ (w r : List UInt8), c ∉ w → cutC c (w ++ c :: r) = (w, r, true)
  | [], r, _ => by simp [cutC]
  | x :: w, r, h => by
    simp only [List.mem_cons, not_or] at h
    rw [List.cons_append, cutC, if_neg (fun e => h.1 e.symm), cutC_app c w r h.2]
theorem cutC_none (c : UInt8) : ∀ (w : List UInt8), c ∉ w → cutC c w = (w, [], false)
  | [], _ => rfl
  | x :: w, h => by
    simp only [List.mem_cons, not_or] at h
    rw [cutC, if_neg (fun e => h.1 e.symm), cutC_none c w h.2]
theorem cutC_some (c : UInt8) : ∀ (l : List UInt8), (cutC c l).2.2 = true → l = (cutC c l).1 ++ c :: (cutC c l).2.1 ∧ c ∉ (cutC c l).1
  | [], h => by simp [cutC] at h
  | x :: l, h => by
    unfold cutC at h ⊢
    split
    · rename_i e
      subst e
      simp
    · rename_i e
      rw [if_neg e] at h
      obtain ⟨h1, h2⟩ := cutC_some c l h
      refine ⟨?_, ?_⟩
      · simp only [List.cons_append]
        rw [← h1]
      · simp only [List.mem_cons, not_or]
        exact ⟨fun h => e h.symm, h2⟩
theorem cutC_len (c : UInt8) (l : List UInt8) (h : (cutC c l).2.2 = true) : (cutC c l).2.1.length < l.length := by
  have h1 := congrArg List.length (cutC_some c l h).1
  simp only [List.length_append, List.length_cons] at h1
  omega
theorem cutC_rest (c : UInt8) (l : List UInt8) : (cutC c l).2.1.length ≤ l.length := by
  cases h : (cutC c l).2.2 with
  | true => have := cutC_len c l h; omega
  | false =>
    have key : ∀ l : List UInt8, (cutC c l).2.2 = false → (cutC c l).2.1 = [] := by
      intro l
      induction l with
      | nil => intro _; rfl
      | cons x l ih =>
        intro h
        unfold cutC at h ⊢
        split
        · rename_i e; rw [if_pos e] at h; cases h
        · rename_i e; rw [if_neg e] at h; exact ih h
    rw [key l h]
    simp
theorem cutC_word (c : UInt8) : ∀ l : List UInt8, (cutC c l).1.length ≤ l.length
  | [] => by simp [cutC]
  | x :: l => by
    have := cutC_word c l
    unfold cutC
    split <;> simp
    omega
abbrev HRd := List UInt8 × Bool
def rdNum (r : HRd) : Int × HRd :=
  let p := par (cutC 32 r.1).1
  if p.2 ≠ 0 ∨ 4294967295 < p.1 then (0, ((cutC 32 r.1).2.1, true)) else ((p.1 : Int), ((cutC 32 r.1).2.1, r.2))
def rdDraw (r : HRd) : Nat × HRd :=
  let p := rhex (cutC 32 r.1).1
  (p.1, ((cutC 32 r.1).2.1, r.2 || decide (p.2 ≠ 0)))
def unhF : List UInt8 → Option (List UInt8)
  | [] => some []
  | [_] => some []
  | a :: b :: r => if hv a < 16 ∧ hv b < 16 then (unhF r).map (UInt8.ofNat (16 * hv a + hv b) :: ·) else none
def unhex (w : List UInt8) : List UInt8 × Bool :=
  if w = [45] then ([], true) else
  match unhF w with
  | none => ([], false)
  | some l => (l, decide (0 < l.length) && decide (w.length % 2 = 0))
def rdBytes (r : HRd) : List UInt8 × HRd :=
  let p := unhex (cutC 32 r.1).1
  (p.1, ((cutC 32 r.1).2.1, r.2 || !p.2))
def itR (l : List UInt8) : HIt × Bool :=
  let r : HRd := ((cutC 32 l).2.1, false)
  let w := (cutC 32 l).1
  if w = wFeed then
    let a := rdNum r
    let b := rdBytes a.2
    ({ zeroIt with kind := 1, conn := a.1, bs := b.1 }, b.2.2)
  else if w = wPick then
    let a := rdNum r
    let b := rdDraw a.2
    ({ zeroIt with kind := 2, conn := a.1, draw := b.1 }, b.2.2)
  else if w = wTick then
    let a := rdNum r
    ({ zeroIt with kind := 3, n := a.1 }, a.2.2)
  else if w = wAsk then
    let a := rdNum r
    let b := rdDraw a.2
    let p := readQ b.2.1
    ({ zeroIt with kind := 4, conn := a.1, draw := b.1, q := p.1 }, b.2.2 || decide (p.2 ≠ 0))
  else (zeroIt, false)
def itL (l : List UInt8) : HIt × Bool := if (itR l).2 = false ∧ itOk (itR l).1 = true ∧ itT (itR l).1 = l then ((itR l).1, true) else (zeroIt, false)
def secL (l : List UInt8) : Nat × Bool :=
  let c := cutC 32 l
  let p := rhex c.2.1
  (p.1, decide (c.1 = wSecret) && (decide (p.2 = 0) && decide (p.1 ≠ 0)))
def Vis (l : List UInt8) : Prop := ∀ c ∈ l, 33 ≤ c.toNat
theorem Vis.no {l : List UInt8} (h : Vis l) {c : UInt8} (hc : c.toNat < 33) : c ∉ l := fun hm => by have := h c hm; omega
theorem Vis.app {a b : List UInt8} (h : Vis a) (k : Vis b) : Vis (a ++ b) := fun c hc => by
  rcases List.mem_append.1 hc with hc | hc
  · exact h c hc
  · exact k c hc
theorem vis_txt (n : Nat) : Vis (txt n) := fun c hc => by have := txtF_dig 19 n c hc; omega
theorem hd_vis (n : Nat) (h : n < 16) : 33 ≤ (hd n).toNat := by rw [hd_nat n h]; split <;> omega
theorem hv_vis (c : UInt8) (h : hv c < 16) : 33 ≤ c.toNat := by
  unfold hv at h
  split at h
  · omega
  · split at h <;> omega
theorem vis_hex (n : Nat) : Vis (hexT n) := fun c hc => hv_vis c (hexF_all 16 n c hc)
theorem vis_hexB (l : List UInt8) : Vis (hexB l) := fun c hc => by
  unfold hexB at hc
  split at hc
  · simp only [List.mem_cons, List.not_mem_nil, or_false] at hc
    subst hc
    decide
  · obtain ⟨x, _, hx⟩ := List.mem_flatMap.1 hc
    have := x.toNat_lt
    simp only [List.mem_cons, List.not_mem_nil, or_false] at hx
    rcases hx with rfl | rfl <;> exact hd_vis _ (by omega)
theorem two_back (c : UInt8) : hv (hd (c.toNat / 16)) < 16 ∧ hv (hd (c.toNat % 16)) < 16 ∧ UInt8.ofNat (16 * hv (hd (c.toNat / 16)) + hv (hd (c.toNat % 16))) = c := by
  have hc := c.toNat_lt
  rw [hv_hd _ (by omega), hv_hd _ (by omega)]
  refine ⟨by omega, by omega, ?_⟩
  rw [show 16 * (c.toNat / 16) + c.toNat % 16 = c.toNat by omega]
  simp
theorem unhF_hex : ∀ l : List UInt8, unhF (l.flatMap fun c => [hd (c.toNat / 16), hd (c.toNat % 16)]) = some l
  | [] => rfl
  | c :: l => by
    obtain ⟨h1, h2, h3⟩ := two_back c
    rw [List.flatMap_cons]
    simp only [List.cons_append, List.nil_append]
    rw [unhF, if_pos ⟨h1, h2⟩, unhF_hex l, h3]
    rfl
theorem unhex_hexB (l : List UInt8) : unhex (hexB l) = (l, true) := by
  unfold unhex hexB
  by_cases h : l = []
  · rw [if_pos h, if_pos rfl, h]
  · rw [if_neg h]
    have hne : (l.flatMap fun c => [hd (c.toNat / 16), hd (c.toNat % 16)]) ≠ [45] := by
      intro e
      have := congrArg List.length e
      cases l with
      | nil => exact h rfl
      | cons a l => simp at this
    rw [if_neg hne, unhF_hex]
    have hlen : (l.flatMap fun c => [hd (c.toNat / 16), hd (c.toNat % 16)]).length = 2 * l.length := by
      clear hne h
      induction l with
      | nil => rfl
      | cons a l ih => rw [List.flatMap_cons, List.length_append, ih]; simp; omega
    have hp : 0 < l.length := List.length_pos_iff.mpr h
    simp only [hlen]
    simp [hp]
theorem rdNum_small (n : Nat) (h : n ≤ 4294967295) (r : List UInt8) (b : Bool) : rdNum (smallT (n : Int) ++ 32 :: r, b) = ((n : Int), (r, b)) := by
  unfold rdNum smallT
  rw [u64n_nat n (by omega)]
  simp only [cutC_app 32 _ r ((vis_txt n).no (by decide)), par_txt n (by omega)]
  rw [if_neg (by simp; omega)]
theorem rdNum_last (n : Nat) (h : n ≤ 4294967295) (b : Bool) : rdNum (smallT (n : Int), b) = ((n : Int), ([], b)) := by
  unfold rdNum smallT
  rw [u64n_nat n (by omega)]
  simp only [cutC_none 32 _ ((vis_txt n).no (by decide)), par_txt n (by omega)]
  rw [if_neg (by simp; omega)]
theorem rdDraw_hex (n : Nat) (h : n < 18446744073709551616) (r : List UInt8) (b : Bool) : rdDraw (hexT n ++ 32 :: r, b) = (n, (r, b)) := by
  unfold rdDraw
  simp only [cutC_app 32 _ r ((vis_hex n).no (by decide)), rhex_hex n h]
  simp
theorem rdDraw_last (n : Nat) (h : n < 18446744073709551616) (b : Bool) : rdDraw (hexT n, b) = (n, ([], b)) := by
  unfold rdDraw
  simp only [cutC_none 32 _ ((vis_hex n).no (by decide)), rhex_hex n h]
  simp
theorem rdBytes_hex (l : List UInt8) (b : Bool) : rdBytes (hexB l, b) = (l, ([], b)) := by
  unfold rdBytes
  simp only [cutC_none 32 _ ((vis_hexB l).no (by decide)), unhex_hexB]
  simp
theorem bareB_iff (q : Req) : bareB q = true ↔ q = zeroR 0 := by unfold bareB reqEq; simp
def HIt.fits (x : HIt) : Prop := x.draw < 18446744073709551616
theorem itR_itT (x : HIt) (h : itOk x = true) (hd : x.fits) : itR (itT x) = (x, false) := by
  obtain ⟨kind, conn, bs, draw, n, q⟩ := x
  have hd : draw < 18446744073709551616 := hd
  unfold itOk thB tickB at h
  simp only at h
  unfold itR itT
  simp only
  by_cases h1 : kind = 1
  · subst h1
    simp only [if_true, Bool.and_eq_true, decide_eq_true_eq, bareB_iff] at h ⊢
    obtain ⟨⟨c0, c8⟩, -, rfl, rfl, rfl⟩ := h
    obtain ⟨m, rfl⟩ : ∃ m : Nat, conn = (m : Int) := ⟨conn.toNat, by omega⟩
    rw [cutC_app 32 wFeed _ (by decide)]
    simp only [rdNum_small m (by omega), rdBytes_hex]
    rfl
  · by_cases h2 : kind = 2
    · subst h2
      simp only [if_neg (show ¬ (2 : Int) = 1 by decide), if_true, Bool.and_eq_true, decide_eq_true_eq, bareB_iff] at h ⊢
      obtain ⟨⟨c0, c8⟩, hb, rfl, rfl⟩ := h
      obtain rfl : bs = [] := List.eq_nil_of_length_eq_zero hb
      obtain ⟨m, rfl⟩ : ∃ m : Nat, conn = (m : Int) := ⟨conn.toNat, by omega⟩
      rw [cutC_app 32 wPick _ (by decide)]
      simp only [if_neg (show ¬ wPick = wFeed by decide), rdNum_small m (by omega), rdDraw_last draw hd]
      rfl
    · by_cases h3 : kind = 3
      · subst h3
        simp only [if_neg (show ¬ (3 : Int) = 1 by decide), if_neg (show ¬ (3 : Int) = 2 by decide), if_true, Bool.and_eq_true, decide_eq_true_eq, bareB_iff] at h ⊢
        obtain ⟨rfl, hb, rfl, ⟨n0, n1⟩, rfl⟩ := h
        obtain rfl : bs = [] := List.eq_nil_of_length_eq_zero hb
        obtain ⟨m, rfl⟩ : ∃ m : Nat, n = (m : Int) := ⟨n.toNat, by omega⟩
        rw [cutC_app 32 wTick _ (by decide)]
        simp only [if_neg (show ¬ wTick = wFeed by decide), if_neg (show ¬ wTick = wPick by decide), rdNum_last m (by omega)]
        rfl
      · by_cases h4 : kind = 4
        · subst h4
          simp only [if_neg (show ¬ (4 : Int) = 1 by decide), if_neg (show ¬ (4 : Int) = 2 by decide), if_neg (show ¬ (4 : Int) = 3 by decide), if_true, Bool.and_eq_true, decide_eq_true_eq] at h ⊢
          obtain ⟨⟨c0, c8⟩, hb, rfl, hq⟩ := h
          obtain rfl : bs = [] := List.eq_nil_of_length_eq_zero hb
          obtain ⟨m, rfl⟩ : ∃ m : Nat, conn = (m : Int) := ⟨conn.toNat, by omega⟩
          rw [cutC_app 32 wAsk _ (by decide)]
          simp only [if_neg (show ¬ wAsk = wFeed by decide), if_neg (show ¬ wAsk = wPick by decide), if_neg (show ¬ wAsk = wTick by decide), rdNum_small m (by omega), rdDraw_hex draw hd]
          have hl : lineT q = lineQ q := by unfold lineT; rw [if_pos hq]
          rw [hl, read_line hq]
          rfl
        · rw [if_neg h1, if_neg h2, if_neg h3, if_neg h4] at h
          cases h
theorem itL_itT (x : HIt) (h : itOk x = true) (hd : x.fits) : itL (itT x) = (x, true) := by
  unfold itL
  rw [itR_itT x h hd, if_pos ⟨rfl, h, rfl⟩]
theorem secL_secT (s : Nat) (h0 : s ≠ 0) (h : s < 18446744073709551616) : secL (secT s) = (s, true) := by
  unfold secL secT
  simp only [cutC_app 32 wSecret _ (by decide), rhex_hex s h]
  simp [h0]
theorem rhex_back {l : List UInt8} (h : (rhex l).2 = 0) : hexT (rhex l).1 = l := by
  unfold rhex at h ⊢
  split
  · rename_i hl; rw [if_pos hl] at h; cases h
  · rename_i hl
    rw [if_neg hl] at h
    have hl : l.length = 16 := by omega
    cases hr : rhF l 0 with
    | none => rw [hr] at h; cases h
    | some n => exact hexF_back 16 l n hl hr
theorem secL_back {l : List UInt8} (h : (secL l).2 = true) : secT (secL l).1 = l ∧ (secL l).1 ≠ 0 := by
  unfold secL at h ⊢
  simp only [Bool.and_eq_true, decide_eq_true_eq] at h ⊢
  obtain ⟨h1, h2, h3⟩ := h
  refine ⟨?_, h3⟩
  unfold secT
  rw [rhex_back h2, ← h1]
  have hne : (cutC 32 l).2.2 = true := by
    cases hc : (cutC 32 l).2.2 with
    | true => rfl
    | false =>
      have key : ∀ l : List UInt8, (cutC 32 l).2.2 = false → (cutC 32 l).2.1 = [] := by
        intro l
        induction l with
        | nil => intro _; rfl
        | cons x l ih =>
          intro h
          unfold cutC at h ⊢
          split
          · rename_i e; rw [if_pos e] at h; cases h
          · rename_i e; rw [if_neg e] at h; exact ih h
      rw [key l hc] at h2
      simp [rhex] at h2
  exact (cutC_some 32 l hne).1.symm
theorem sec_not_it {l : List UInt8} (h : (secL l).2 = true) : (itL l).2 = false := by
  obtain ⟨h1, h2⟩ := secL_back h
  unfold itL
  rw [if_neg]
  rintro ⟨h3, h4, h5⟩
  have hw : (cutC 32 l).1 = wSecret := by
    unfold secL at h
    simp only [Bool.and_eq_true, decide_eq_true_eq] at h
    exact h.1
  unfold itR at h4
  simp only [hw, if_neg (show ¬ wSecret = wFeed by decide), if_neg (show ¬ wSecret = wPick by decide), if_neg (show ¬ wSecret = wTick by decide), if_neg (show ¬ wSecret = wAsk by decide)] at h4
  unfold itOk zeroIt at h4
  simp at h4
structure PRes where
  ss : List Nat
  xs : List HIt
  err : Int
  line : Nat
def parseF : Nat → Nat → List Nat → List HIt → List UInt8 → PRes
  | 0, row, _, _, _ => ⟨[], [], 60, row⟩
  | k + 1, row, ss, xs, s =>
    if s = [] then (if ss = [] then ⟨[], [], 60, row⟩ else ⟨ss, xs, 0, 0⟩)
    else if (cutC 10 s).2.2 = false then ⟨[], [], 60, row⟩
    else if (secL (cutC 10 s).1).2 = true ∧ xs = [] ∧ ss.length < 8 then parseF k (row + 1) (ss ++ [(secL (cutC 10 s).1).1]) xs (cutC 10 s).2.1
    else if (itL (cutC 10 s).1).2 = false ∨ ss = [] then ⟨[], [], 60, row⟩
    else if xs.length = 1000 then ⟨[], [], 2, row⟩
    else parseF k (row + 1) ss (xs ++ [(itL (cutC 10 s).1).1]) (cutC 10 s).2.1
def parse (s : List UInt8) : PRes := if 65536 < s.length then ⟨[], [], 2, 1⟩ else parseF (s.length + 1) 1 [] [] s
theorem vis_ns (ns : List Int) : ∀ w ∈ nsW ns, Vis w := fun w hw => by
  obtain ⟨x, _, rfl⟩ := List.mem_map.1 hw
  exact vis_txt _
theorem vis_ops : ∀ w ∈ opsL, ∀ c ∈ w, 33 ≤ c.toNat := by decide
theorem vis_op (op : Int) : Vis (opW op) := by
  unfold opW
  split
  · rw [List.getD_eq_getElem?_getD]
    cases h : opsL[(op - 1).toNat]? with
    | none => exact fun c hc => by simp at hc
    | some w => exact vis_ops w (List.mem_of_getElem? h)
  · exact fun c hc => by simp at hc
theorem vis_quo (l : List UInt8) : Vis (quo l) := fun c hc => by
  unfold quo at hc
  split at hc
  · simp only [List.mem_cons, List.not_mem_nil, or_false] at hc
    subst hc
    decide
  · obtain ⟨x, _, hx⟩ := List.mem_flatMap.1 hc
    have hxl := x.toNat_lt
    unfold qb at hx
    split at hx
    · rename_i hp
      simp only [List.mem_cons, List.not_mem_nil, or_false] at hx
      subst hx
      unfold plainB at hp
      simp only [Bool.and_eq_true, decide_eq_true_eq] at hp
      exact hp.1
    · simp only [List.mem_cons, List.not_mem_nil, or_false] at hx
      rcases hx with rfl | rfl | rfl
      · decide
      · exact hd_vis _ (by omega)
      · exact hd_vis _ (by omega)
def VisW (ws : List (List UInt8)) : Prop := ∀ w ∈ ws, Vis w
theorem VisW.ns (ns : List Int) : VisW (nsW ns) := vis_ns ns
theorem VisW.one {w : List UInt8} (h : Vis w) : VisW [w] := fun x hx => by
  simp only [List.mem_cons, List.not_mem_nil, or_false] at hx
  subst hx
  exact h
theorem VisW.nil : VisW [] := fun x hx => by cases hx
theorem VisW.app {a b : List (List UInt8)} (h : VisW a) (k : VisW b) : VisW (a ++ b) := fun w hw => by
  rcases List.mem_append.1 hw with hw | hw
  · exact h w hw
  · exact k w hw
theorem fields_vis (q : Req) : VisW (fieldsW q) := by
  unfold fieldsW
  refine ite_W (p := VisW) (.ns _) ?_
  refine ite_W (p := VisW) (.ns _) ?_
  refine ite_W (p := VisW) (.one (vis_quo _)) ?_
  refine ite_W (p := VisW) (.ns _) ?_
  refine ite_W (p := VisW) (.app (.app (.ns _) (.ns _)) (.ns _)) ?_
  refine ite_W (p := VisW) (.one (vis_hex _)) ?_
  refine ite_W (p := VisW) (.app (.ns _) (.one (vis_txt _))) ?_
  refine ite_W (p := VisW) (.ns _) ?_
  refine ite_W (p := VisW) (.ns _) ?_
  refine ite_W (p := VisW) (.ns _) ?_
  refine ite_W (p := VisW) (.ns _) ?_
  refine ite_W (p := VisW) (.ns _) ?_
  refine ite_W (p := VisW) (.ns _) ?_
  refine ite_W (p := VisW) (.ns _) ?_
  exact .nil
theorem join_nl : ∀ (ws : List (List UInt8)), VisW ws → (10 : UInt8) ∉ joinW ws
  | [], _ => by decide
  | [x], h => by
    have : joinW [x] = x := by simp [joinW, Lib.join]
    rw [this]
    exact (h x (by simp)).no (by decide)
  | x :: y :: r, h => by
    rw [joinW_cons]
    simp only [List.mem_append, List.mem_cons, not_or]
    exact ⟨(h x (by simp)).no (by decide), by decide, join_nl (y :: r) fun w hw => h w (List.mem_cons_of_mem _ hw)⟩
theorem line_nl (q : Req) : (10 : UInt8) ∉ lineT q := by
  unfold lineT
  split
  · unfold lineQ
    refine join_nl _ ?_
    unfold lineW headW
    exact VisW.app (.app (.app (.app (.ns _) (.one (vis_hex _))) (.ns _)) (.one (vis_op _))) (fields_vis q)
  · simp
theorem itT_nl (x : HIt) : (10 : UInt8) ∉ itT x := by
  have t1 : (10 : UInt8) ∉ smallT x.conn := (vis_txt _).no (by decide)
  have t2 : (10 : UInt8) ∉ smallT x.n := (vis_txt _).no (by decide)
  have t3 : (10 : UInt8) ∉ hexT x.draw := (vis_hex _).no (by decide)
  have t4 : (10 : UInt8) ∉ hexB x.bs := (vis_hexB _).no (by decide)
  have t5 := line_nl x.q
  have w1 : (10 : UInt8) ∉ wFeed := by decide
  have w2 : (10 : UInt8) ∉ wPick := by decide
  have w3 : (10 : UInt8) ∉ wTick := by decide
  have w4 : (10 : UInt8) ∉ wAsk := by decide
  have b : ¬ (10 : UInt8) = 32 := by decide
  unfold itT
  split
  · simp only [List.mem_append, List.mem_cons, not_or]; exact ⟨w1, b, t1, b, t4⟩
  · split
    · simp only [List.mem_append, List.mem_cons, not_or]; exact ⟨w2, b, t1, b, t3⟩
    · split
      · simp only [List.mem_append, List.mem_cons, not_or]; exact ⟨w3, b, t2⟩
      · simp only [List.mem_append, List.mem_cons, not_or]; exact ⟨w4, b, t1, b, t3, b, t5⟩
theorem secT_nl (s : Nat) : (10 : UInt8) ∉ secT s := by
  have t3 : (10 : UInt8) ∉ hexT s := (vis_hex _).no (by decide)
  unfold secT
  simp only [List.mem_append, List.mem_cons, not_or]
  exact ⟨by decide, by decide, t3⟩
theorem sec_it (x : HIt) (h : itOk x = true) (hd : x.fits) : (secL (itT x)).2 = false := by
  cases hs : (secL (itT x)).2 with
  | false => rfl
  | true =>
    have := sec_not_it hs
    rw [itL_itT x h hd] at this
    cases this
def secsT (ss : List Nat) : List UInt8 := ss.flatMap fun s => secT s ++ [10]
def itsT (xs : List HIt) : List UInt8 := xs.flatMap fun x => itT x ++ [10]
theorem jobT_eq (ss : List Nat) (xs : List HIt) : jobT ss xs = secsT ss ++ itsT xs := rfl
theorem parse_its : ∀ (ys xs : List HIt) (ss : List Nat) (k row : Nat), (itsT ys).length < k → ss ≠ [] → (xs ++ ys).length ≤ 1000 → (∀ x ∈ ys, itOk x = true ∧ x.fits) → parseF k row ss xs (itsT ys) = ⟨ss, xs ++ ys, 0, 0⟩
  | [], xs, ss, k, row, hk, hs, hl, hy => by
    cases k with
    | zero => simp at hk
    | succ k => rw [parseF, if_pos (show itsT [] = [] from rfl), if_neg hs, List.append_nil]
  | y :: ys, xs, ss, k, row, hk, hs, hl, hy => by
    cases k with
    | zero => simp at hk
    | succ k =>
      have he : itsT (y :: ys) = itT y ++ 10 :: itsT ys := by simp [itsT]
      have hc := cutC_app 10 (itT y) (itsT ys) (itT_nl y)
      obtain ⟨h1, h2⟩ := hy y (by simp)
      rw [he] at hk ⊢
      have hlen : (itT y ++ 10 :: itsT ys).length = (itT y).length + (itsT ys).length + 1 := by simp; omega
      rw [parseF, if_neg (by simp), hc]
      simp only
      rw [if_neg (by simp), if_neg (by rw [sec_it y h1 h2]; simp), itL_itT y h1 h2, if_neg (by simp [hs]), if_neg (by simp at hl; omega)]
      rw [parse_its ys (xs ++ [y]) ss k (row + 1) (by omega) hs (by simpa using hl) (fun x hx => hy x (List.mem_cons_of_mem _ hx))]
      simp
theorem parse_secs : ∀ (ts ss : List Nat) (ys : List HIt) (k row : Nat), (secsT ts ++ itsT ys).length < k → ss ++ ts ≠ [] → (ss ++ ts).length ≤ 8 → ys.length ≤ 1000 → (∀ s ∈ ts, s ≠ 0 ∧ s < 18446744073709551616) → (∀ x ∈ ys, itOk x = true ∧ x.fits) →
    parseF k row ss [] (secsT ts ++ itsT ys) = ⟨ss ++ ts, ys, 0, 0⟩
  | [], ss, ys, k, row, hk, hs, hl, hy, ht, hi => by
    have := parse_its ys [] ss k row (by simpa [secsT] using hk) (by simpa using hs) (by simpa using hy) hi
    simpa [secsT] using this
  | t :: ts, ss, ys, k, row, hk, hs, hl, hy, ht, hi => by
    cases k with
    | zero => simp at hk
    | succ k =>
      have he : secsT (t :: ts) ++ itsT ys = secT t ++ 10 :: (secsT ts ++ itsT ys) := by simp [secsT]
      have hc := cutC_app 10 (secT t) (secsT ts ++ itsT ys) (secT_nl t)
      obtain ⟨h1, h2⟩ := ht t (by simp)
      rw [he] at hk ⊢
      have hlen : (secT t ++ 10 :: (secsT ts ++ itsT ys)).length = (secT t).length + (secsT ts ++ itsT ys).length + 1 := by simp; omega
      rw [parseF, if_neg (by simp), hc]
      simp only
      rw [if_neg (by simp), secL_secT t h1 h2, if_pos (by simp at hl ⊢; omega)]
      rw [parse_secs ts (ss ++ [t]) ys k (row + 1) (by omega) (by simp) (by simpa using hl) hy (fun s hs => ht s (List.mem_cons_of_mem _ hs)) hi]
      simp
theorem jobOk_iff (ss : List Nat) (xs : List HIt) : jobOk ss xs = true ↔ 1 ≤ ss.length ∧ ss.length ≤ 8 ∧ xs.length ≤ 1000 ∧ (∀ s ∈ ss, s ≠ 0) ∧ ∀ x ∈ xs, itOk x = true := by
  unfold jobOk
  simp only [Bool.and_eq_true, decide_eq_true_eq, List.all_eq_true]
theorem parse_text {ss : List Nat} {xs : List HIt} (h : jobOk ss xs = true) (hs : ∀ s ∈ ss, s < 18446744073709551616) (hx : ∀ x ∈ xs, x.fits) (hl : (jobT ss xs).length ≤ 65536) : parse (jobT ss xs) = ⟨ss, xs, 0, 0⟩ := by
  obtain ⟨h1, h2, h3, h4, h5⟩ := (jobOk_iff ss xs).1 h
  unfold parse
  rw [if_neg (by omega), jobT_eq]
  have := parse_secs ss [] xs ((secsT ss ++ itsT xs).length + 1) 1 (by omega) (by
    intro e
    simp only [List.nil_append] at e
    subst e
    simp at h1) (by simpa using h2) h3 (fun s hs' => ⟨h4 s hs', hs s hs'⟩) (fun x hx' => ⟨h5 x hx', hx x hx'⟩)
  simpa using this
structure PInv (ss : List Nat) (xs : List HIt) : Prop where
  s8 : ss.length ≤ 8
  s0 : ∀ s ∈ ss, s ≠ 0
  sl : ∀ s ∈ ss, s < 18446744073709551616
  x1 : xs.length ≤ 1000
  xo : ∀ x ∈ xs, itOk x = true ∧ x.fits
  ne : xs ≠ [] → ss ≠ []
theorem parseF_fuel : ∀ (k k' row : Nat) (ss : List Nat) (xs : List HIt) (s : List UInt8), s.length < k → s.length < k' → parseF k row ss xs s = parseF k' row ss xs s
  | 0, _, _, _, _, _, h, _ => by omega
  | _ + 1, 0, _, _, _, _, _, h => by omega
  | k + 1, k' + 1, row, ss, xs, s, h, h' => by
    unfold parseF
    by_cases h0 : s = []
    · rw [if_pos h0, if_pos h0]
    · rw [if_neg h0, if_neg h0]
      by_cases h1 : (cutC 10 s).2.2 = false
      · rw [if_pos h1, if_pos h1]
      · rw [if_neg h1, if_neg h1]
        have hl := cutC_len 10 s (by simpa using h1)
        rw [parseF_fuel k k' (row + 1) (ss ++ [(secL (cutC 10 s).1).1]) xs (cutC 10 s).2.1 (by omega) (by omega),
          parseF_fuel k k' (row + 1) ss (xs ++ [(itL (cutC 10 s).1).1]) (cutC 10 s).2.1 (by omega) (by omega)]
theorem parse_small {s : List UInt8} (h : s.length ≤ 65536) : parse s = parseF (s.length + 1) 1 [] [] s := by unfold parse; rw [if_neg (by omega)]
end Go.Proofs.YtldjgpnbkbmgoaaGreatDoor

namespace Go.Proofs.YtldjgpnbkbmgoaaGreatDoor
open Go.RowKit Go.Lib
theorem ib_ok (s : ByteArray) (c : Int) (w : World) : Calls Tryz.prog 93 #[.string s, .int .u8 c] w fun e w' => e = .returned (.int .i64 (Lib.indexByte s.data.toList c.toNat.toUInt8)) ∧ w' = w := by
  go_enter Tryz.func93, Tryz.ntmps93
  go_wp2
  rw [run_callFunc_extern Tryz.func129 (by kernel_rfl) (by kernel_rfl) (by kernel_rfl) (e := Extern.BytealgIndexByte.indexByte) (by kernel_rfl), Lib.run_indexByteString]
  simp only [Result.andThen]
  rw [Oper.upon_value]
  go_wp2
  go_ret
  exact ⟨rfl, rfl⟩
theorem ib_cut (c : UInt8) : ∀ l : List UInt8, (Lib.indexByte l c = -1 ∧ cutC c l = (l, [], false)) ∨ ∃ i : Nat, Lib.indexByte l c = (i : Int) ∧ i < l.length ∧ cutC c l = (l.take i, l.drop (i + 1), true)
  | [] => .inl ⟨rfl, rfl⟩
  | x :: l => by
    unfold Lib.indexByte cutC
    by_cases h : x = c
    · right
      refine ⟨0, ?_, by simp, by simp [h]⟩
      simp [h]
    · have h2 : ¬ c = x := fun e => h e.symm
      rcases ib_cut c l with ⟨h1, h3⟩ | ⟨i, h1, h4, h3⟩
      · left
        simp [h, h2, h1, h3]
      · right
        refine ⟨i + 1, ?_, by simp; omega, by simp [h, h3]⟩
        simp [h, h2, h1]
        try omega
theorem index1_ok (c : UInt8) (l : List UInt8) (w : World) : Calls Tryz.prog 55 #[strV l, .string ⟨#[c]⟩] w fun e w' => e = .returned (.int .i64 (Lib.indexByte l c)) ∧ w' = w := by
  have HI := Lib.hid (fun w => ib_ok ⟨l.toArray⟩ (c.toNat : Int) w)
  have HC := Lib.hid (show ((c.toNat : Int).toNat.toUInt8) = c by simp)
  by_cases h : l = [c]
  · subst h
    have HX := Lib.hid (show Lib.indexByte [c] c = 0 by simp [Lib.indexByte])
    rw [HX.out]
    go_enter Tryz.func55, Tryz.ntmps55
    go_wp2_with fail
    go_ret
    exact ⟨rfl, rfl⟩
  · have hne : ([c] == l) = false := by simpa using fun e => h e.symm
    have hne2 : (l == [c]) = false := by simpa using h
    go_enter Tryz.func55, Tryz.ntmps55
    go_wp2_with fail
    refine (HI.out _).mono ?_
    rintro e w' ⟨rfl, rfl⟩
    go_wp2_with fail
    go_ret
    exact ⟨by simp only [HC.out]; rfl, rfl⟩
def CPost (c : UInt8) (l : List UInt8) (w : World) (e : Ending) (w' : World) : Prop := e = .returned (.tuple #[strV (cutC c l).1, strV (cutC c l).2.1, .bool (cutC c l).2.2]) ∧ ∃ n, w' = w.drewN n
theorem lcut_ok (c : UInt8) (l : List UInt8) (w : World) (hl : l.length ≤ 1000000000) : Calls Tryz.prog 33 #[strV l, .string ⟨#[c]⟩] w (CPost c l w) := by
  have HI := Lib.hid (fun w => index1_ok c l w)
  have hz := str_size l
  unfold CPost
  rcases ib_cut c l with ⟨h1, h2⟩ | ⟨i, h1, h3, h2⟩
  · rw [h1] at HI
    rw [h2]
    clear h1 h2
    go_enter Tryz.func33, Tryz.ntmps33
    go_wp2_with fail
    refine (HI.out _).mono ?_
    rintro e w' ⟨rfl, rfl⟩
    go_wp2_with fail
    go_ret3
    exact ⟨rfl, 0, rfl⟩
  · rw [h1] at HI
    rw [h2]
    have HA := Lib.hid (str_cut l 0 i)
    have HB := Lib.hid (str_cut l (i + 1) l.length)
    have hle : i ≤ l.length := by omega
    have hw1 : IntKind.i64.wrap ((i : Int) + 1) = (i : Int) + 1 := by rw [IntKind.wrap_i64]; omega
    clear h1 h2
    go_enter Tryz.func33, Tryz.ntmps33
    go_wp2_with fail
    refine (HI.out _).mono ?_
    rintro e w' ⟨rfl, rfl⟩
    go_wp2_with fail
    go_quiet (fail)
    go_wp2_with fail
    go_ret3
    refine ⟨?_, _, rfl⟩
    have e1 := HA.out
    have e2 := HB.out
    simp only [List.drop_zero, List.take_length] at e1 e2
    simp [← e1, ← e2, hz]
theorem cut_ok (c : UInt8) (l : List UInt8) (w : World) (hl : l.length ≤ 1000000000) : Calls Tryz.prog 19 #[strV l, .string ⟨#[c]⟩] w (CPost c l w) := by
  have HI := Lib.hid (fun w => lcut_ok c l w hl)
  go_enter Tryz.func19, Tryz.ntmps19
  go_wp2_with fail
  refine (HI.out _).mono ?_
  rintro e w' ⟨rfl, n, rfl⟩
  go_wp2_with fail
  go_ret3
  exact ⟨rfl, n, rfl⟩
end Go.Proofs.YtldjgpnbkbmgoaaGreatDoor

