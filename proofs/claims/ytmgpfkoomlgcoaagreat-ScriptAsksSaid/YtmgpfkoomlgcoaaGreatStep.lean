/-
  Steps of a script: how they lie; script.Right on steps that may be; the reference's SameSteps on steps that are the same. Conditions: as each states.
-/
import Derived.Test.YtmgpfkoomlgcoaaGreatCodec
import Derived.Outline
import Derived.Scope
namespace Go.Proofs.YtmgpfkoomlgcoaaGreat
open Go.RowKit

structure Stp where
  kind : Int
  conn : Int
  A : Option Addr
  len : Nat
  cap : Nat
  draw : Nat
  n : Int
def stC (s : Stp) : List Value := [.int .i64 s.kind, .int .i64 s.conn, .slice s.A s.len s.cap, .int .u64 s.draw, .int .i64 s.n]
theorem stC_len (s : Stp) : (stC s).length = 5 := rfl
theorem stC_enc : EncOk stC 5 := ⟨stC_len, fun a u hu => by
  simp only [stC, List.mem_cons, List.not_mem_nil, or_false] at hu
  rcases hu with rfl | rfl | rfl | rfl | rfl <;> rfl⟩
theorem stC_elem : ElemOk Tryz.prog 88 97 5 56 := ⟨Tryz.underlying88, by
  have h : (Tryz.prog.info? 97).map (fun i => (i.zero, i.size, i.bytes)) = some (some (.agg #[.int .i64 0, .int .i64 0, .slice none 0 0, .int .u64 0, .int .i64 0]), 5, 56) := by kernel_rfl
  obtain ⟨i, hi, h1, h2, h3⟩ := info_parts h
  exact ⟨i, _, hi, h1, h2, h3, rfl⟩, by omega⟩

/-- A step, its bytes as a list. -/
structure PSt where
  kind : Int
  conn : Int
  l : List UInt8
  draw : Nat
  n : Int
structure StR (w : World) (s : Stp) (x : PSt) : Prop where
  kind : s.kind = x.kind
  conn : s.conn = x.conn
  l : Sl byC w w.heap.size (.slice s.A s.len s.cap) x.l
  draw : s.draw = x.draw
  n : s.n = x.n
theorem StR.below {w w' : World} {s : Stp} {x : PSt} (h : StR w s x) (hb : Below w.heap.size w w') : StR w' s x :=
  ⟨h.kind, h.conn, (h.l.below hb).more hb.size, h.draw, h.n⟩
theorem StR.len {w : World} {s : Stp} {x : PSt} (h : StR w s x) : s.len = x.l.length := by
  obtain ⟨A, cap, e, _⟩ := h.l
  injection e
def StsR (w : World) (l : List Stp) (xs : List PSt) : Prop := l.length = xs.length ∧ ∀ (i : Nat) (s : Stp) (x : PSt), l[i]? = some s → xs[i]? = some x → StR w s x
theorem StsR.below {w w' : World} {l : List Stp} {xs : List PSt} (h : StsR w l xs) (hb : Below w.heap.size w w') : StsR w' l xs :=
  ⟨h.1, fun i s x h1 h2 => (h.2 i s x h1 h2).below hb⟩
theorem StsR.nil (w : World) : StsR w [] [] := ⟨rfl, fun i s x h => by simp at h⟩
theorem StsR.append {w : World} {l m : List Stp} {xs ys : List PSt} (h : StsR w l xs) (k : StsR w m ys) : StsR w (l ++ m) (xs ++ ys) := by
  refine ⟨by simp [h.1, k.1], fun i s x h1 h2 => ?_⟩
  by_cases hi : i < l.length
  · rw [List.getElem?_append_left hi] at h1
    rw [List.getElem?_append_left (by rw [← h.1]; exact hi)] at h2
    exact h.2 i s x h1 h2
  · rw [List.getElem?_append_right (by omega)] at h1
    rw [List.getElem?_append_right (by rw [← h.1]; omega), ← h.1] at h2
    exact k.2 _ s x h1 h2
theorem StsR.one {w : World} {s : Stp} {x : PSt} (h : StR w s x) : StsR w [s] [x] := ⟨rfl, fun i a b h1 h2 => by
  cases i with
  | zero => simp at h1 h2; subst h1; subst h2; exact h
  | succ i => simp at h1⟩

/-! ### script.Right -/
def okStp (s : Stp) : Prop := (s.kind = 3 ∧ s.conn = 0 ∧ s.len = 0 ∧ s.draw = 0 ∧ 0 ≤ s.n ∧ s.n ≤ 4294967295) ∨ (s.kind = 1 ∧ 0 ≤ s.conn ∧ s.conn < 8 ∧ s.len ≤ 4096 ∧ s.draw = 0 ∧ s.n = 0) ∨ (s.kind = 2 ∧ 0 ≤ s.conn ∧ s.conn < 8 ∧ s.len = 0 ∧ s.n = 0)

set_option maxRecDepth 100000 in
set_option maxHeartbeats 400000 in
theorem stepR_ok (s : Stp) (h : okStp s) (w : World) : Calls Tryz.prog 103 #[.agg (stC s).toArray] w (fun e w' => e = .returned (.bool true) ∧ Below w.heap.size w w') := by
  obtain ⟨kind, conn, A, len, cap, draw, n⟩ := s
  unfold stC
  rcases h with ⟨h1, h2, h3, h4, h5, h6⟩ | ⟨h1, h2, h3, h4, h5, h6⟩ | ⟨h1, h2, h3, h4, h5⟩
  · simp only at h1 h2 h3 h4 h5 h6
    subst h1; subst h2; subst h3; subst h4
    go_enter Tryz.func103, Tryz.ntmps103
    go_wp2
    go_ret
    exact ⟨by simp [h5, h6], (Below.refl _ w).alloc (Nat.le_refl _) _⟩
  · simp only at h1 h2 h3 h4 h5 h6
    subst h1; subst h5; subst h6
    go_enter Tryz.func103, Tryz.ntmps103
    go_wp2
    go_ret
    exact ⟨by simp [h2, h3, h4], (Below.refl _ w).alloc (Nat.le_refl _) _⟩
  · simp only at h1 h2 h3 h4 h5
    subst h1; subst h4; subst h5
    go_enter Tryz.func103, Tryz.ntmps103
    go_wp2
    go_ret
    exact ⟨by simp [h2, h3], (Below.refl _ w).alloc (Nat.le_refl _) _⟩

set_option maxRecDepth 100000 in
set_option maxHeartbeats 1000000 in
theorem Right_ok2 (l : List Stp) (v : Value) (w : World) (hs : Sl stC w w.heap.size v l) (hok : ∀ s ∈ l, okStp s) : Calls Tryz.prog 37 #[v] w (fun e w' => e = .returned (.bool true) ∧ Below w.heap.size w w') := by
  obtain ⟨A, ca, rfl, h1, h2, h3⟩ := hs
  unfold maxLen at h2
  go_enter Tryz.func37, Tryz.ntmps37
  go_wp2
  refine wp_scope_straight ?_
  go_wp2
  first | refine wp_seq (wp_label ?_) | refine wp_label ?_
  go_wp2
  go_loopw [3, 8] (fun f i wr => ∃ k : Nat, k ≤ l.length ∧ f = .bool true ∧ i = .int .i64 (k : Nat) ∧ Below w.heap.size w wr) (fun _ i _ => (l.length - intOf i).toNat)
  case atStart => exact ⟨0, Nat.zero_le _, rfl, rfl, Below.refl _ _⟩
  case round =>
    obtain ⟨k, hk, rfl, rfl, hbel⟩ := hrel
    have hsz := hbel.size
    have HB := Lib.hid hbel
    by_cases hlt : k < l.length
    · obtain ⟨b, off, rfl, hb, hlay⟩ := h3 (by omega)
      have hrow := (hlay.of_heap (hbel.block b hb)).elem stC_len k hlt
      have hks := hok l[k] (List.getElem_mem hlt)
      obtain ⟨s, hs⟩ : ∃ s, s = l[k] := ⟨_, rfl⟩
      rw [← hs] at hrow hks
      have HOK := Lib.hid hks
      have y0 := hrow 0 _ rfl
      have y1 := hrow 1 _ rfl
      have y2 := hrow 2 _ rfl
      have y3 := hrow 3 _ rfl
      have y4 := hrow 4 _ rfl
      simp only [Nat.add_zero] at y0
      have HR := Lib.hid (fun w => stepR_ok s HOK.out w)
      clear hrow hlay hs hks hbel
      go_wp2_with fail
      refine (HR.out _).mono ?_
      rintro e w1 ⟨rfl, hb1⟩
      have H1 := Lib.hid ((HB.out.alloc hsz _).trans (hb1.mono (Nat.le_trans hsz (by simp))))
      clear hb1
      go_wp2_with fail
      go_roundw
      case rel => exact ⟨k + 1, by omega, rfl, by go_num, H1.out⟩
      case measure => simp [intOf]; omega
    · obtain rfl : k = l.length := by omega
      clear hbel hlt hk
      go_wp2_with fail
      rw [Exit.noGoto_ret]
      go_ret
      exact ⟨rfl, HB.out⟩

set_option maxRecDepth 100000 in
set_option maxHeartbeats 4000000 in
theorem samesteps_ok (la lb : List Stp) (xs : List PSt) (va vb : Value) (w : World) (ha : Sl stC w w.heap.size va la) (hb : Sl stC w w.heap.size vb lb) (ra : StsR w la xs) (rb : StsR w lb xs) :
    Calls Tryz.prog 36 #[va, vb] w (fun e w' => e = .returned (.bool true) ∧ ∃ n, w' = w.drewN n) := by
  obtain ⟨A, ca, rfl, h1, h2, h3⟩ := ha
  obtain ⟨A', ca', rfl, h1', h2', h3'⟩ := hb
  unfold maxLen at h2 h2'
  obtain ⟨n, hn⟩ : ∃ n, la.length = n := ⟨_, rfl⟩
  have hm : lb.length = n := by rw [← rb.1.symm, ← ra.1, hn]
  have HN := Lib.hid hn
  have HM := Lib.hid hm
  have RA := Lib.hid ra
  have RB := Lib.hid rb
  rw [hn] at h1 h3 ⊢
  rw [hm] at h1' h3' ⊢
  clear hn hm ra rb
  go_enter Tryz.func36, Tryz.ntmps36
  go_wp2
  go_loopw [5] (fun i wr => ∃ k : Nat, k ≤ n ∧ i = .int .i64 k ∧ ∃ m, wr = w.drewN m) (fun i _ => (n - intOf i).toNat)
  case atStart => exact ⟨0, Nat.zero_le _, rfl, 0, rfl⟩
  case round =>
    obtain ⟨k, hk, rfl, m, rfl⟩ := hrel
    by_cases hlt : k < n
    · obtain ⟨b, off, rfl, _, hl⟩ := h3 (by omega)
      obtain ⟨b', off', rfl, _, hl'⟩ := h3' (by omega)
      have hka : k < la.length := by rw [HN.out]; exact hlt
      have hkb : k < lb.length := by rw [HM.out]; exact hlt
      have hkx : k < xs.length := by rw [← RA.out.1]; exact hka
      have rs := RA.out.2 k la[k] xs[k] (List.getElem?_eq_getElem hka) (List.getElem?_eq_getElem hkx)
      have rt := RB.out.2 k lb[k] xs[k] (List.getElem?_eq_getElem hkb) (List.getElem?_eq_getElem hkx)
      have y := (hl.elem stC_len k hka).drewN m
      have z := (hl'.elem stC_len k hkb).drewN m
      obtain ⟨s, hs⟩ : ∃ s, la[k] = s := ⟨_, rfl⟩
      obtain ⟨t, ht⟩ : ∃ t, lb[k] = t := ⟨_, rfl⟩
      obtain ⟨x, hx⟩ : ∃ x, xs[k] = x := ⟨_, rfl⟩
      rw [hs] at rs y
      rw [ht] at rt z
      rw [hx] at rs rt
      clear hs ht hx hl hl' h3 h3' hka hkb hkx
      obtain ⟨sk, sc, sA, sl, scap, sd, sn⟩ := s
      obtain ⟨tk, tc, tA, tl, tcap, td, tn⟩ := t
      obtain ⟨xk, xc, xl, xd, xn⟩ := x
      obtain ⟨e0, e1, e2, e3, e4⟩ := rs
      obtain ⟨f0, f1, f2, f3, f4⟩ := rt
      simp only at e0 e1 e2 e3 e4 f0 f1 f2 f3 f4
      subst e0; subst e1; subst e3; subst e4
      subst f0; subst f1; subst f3; subst f4
      have y0 := y 0 _ rfl
      have y1 := y 1 _ rfl
      have y2 := y 2 _ rfl
      have y3 := y 3 _ rfl
      have y4 := y 4 _ rfl
      have z0 := z 0 _ rfl
      have z1 := z 1 _ rfl
      have z2 := z 2 _ rfl
      have z3 := z 3 _ rfl
      have z4 := z 4 _ rfl
      simp only [Nat.add_zero] at y0 z0
      have hS := fun n0 : Nat => show Calls Tryz.prog 96 #[.slice sA sl scap, .slice tA tl tcap] ((w.drewN m).drewN n0) fun e w' => e = .returned (.bool true) ∧ ∃ n, w' = ((w.drewN m).drewN n0).drewN n by
        have := rsame_ok xl xl _ _ ((w.drewN m).drewN n0) w.heap.size ((e2.drewN m).drewN n0) ((f2.drewN m).drewN n0)
        simpa using this
      obtain ⟨W, hW⟩ : ∃ W, w.drewN m = W := ⟨_, rfl⟩
      rw [hW] at y0 y1 y2 y3 y4 z0 z1 z2 z3 z4 hS ⊢
      have HS := Lib.hid hS
      have HW := Lib.hid hW
      clear hS hW
      clear y z e2 f2
      go_wp2_with fail
      go_quiet ((go_at_call 96; exact Calls.quiet_of (HS.out _)))
      go_wp2_with fail
      go_roundw
      case rel => exact ⟨k + 1, by omega, by go_num, _, by rw [← HW.out, World.drewN_drewN]⟩
      case measure => simp [intOf]; omega
    · obtain rfl : k = n := by omega
      go_wp2
      go_ret
      exact ⟨rfl, _, rfl⟩
end Go.Proofs.YtmgpfkoomlgcoaaGreat
