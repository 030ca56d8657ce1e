/-
  HouseFaults: the law. Conditions: what 'known' gives is a premise here. The reference's Wrong, Right and Text of a job; the law's items and few. Conditions: as each states. HousePrints: the law. Conditions: what 'known' gives is a premise here.
-/
import Derived.Test.YtldjgpnbkbmgoaaGreatDoorPR6
import Derived.Test.YtldjgpnbkbmgoaaGreatDoorPR7
import Derived.Test.YtldjgpnbkbmgoaaGreatDoorPR12
set_option linter.unusedSimpArgs false
set_option linter.unusedVariables false
set_option maxRecDepth 100000
set_option maxHeartbeats 8000000
namespace Go.Proofs.YtldjgpnbkbmgoaaGreatDoor
open Go.RowKit Go.Lib
attribute [local go_sem ↓] load_req stop_req
def linesN : List UInt8 → Nat
  | [] => 0
  | [_] => 1
  | c :: d :: r => (if c = 10 then 1 else 0) + linesN (d :: r)
theorem linesN_count : ∀ s : List UInt8, s.count 10 ≤ linesN s ∧ linesN s ≤ s.length
  | [] => by simp [linesN]
  | [c] => by
    have : [c].count 10 ≤ [c].length := List.count_le_length
    simpa [linesN] using this
  | c :: d :: r => by
    obtain ⟨h1, h2⟩ := linesN_count (d :: r)
    rw [linesN, List.count_cons]
    simp only [List.length_cons] at h2 ⊢
    by_cases h : c = 10
    · subst h; simp; omega
    · have : (c == 10) = false := by simpa using h
      simp [this, h]; omega
theorem linesN_drop (s : List UInt8) (k : Nat) (h : k < s.length) : linesN (s.drop k) = (if s[k] = 10 ∨ k + 1 = s.length then 1 else 0) + linesN (s.drop (k + 1)) := by
  rw [List.drop_eq_getElem_cons h]
  cases hr : s.drop (k + 1) with
  | nil =>
    have := congrArg List.length hr
    simp only [List.length_drop, List.length_nil] at this
    rw [if_pos (.inr (by omega))]
    rfl
  | cons d r =>
    have := congrArg List.length hr
    simp only [List.length_drop, List.length_cons] at this
    rw [linesN]
    by_cases h1 : s[k] = 10
    · rw [if_pos h1, if_pos (.inl h1)]
    · rw [if_neg h1, if_neg (fun h => by
        rcases h with h | h
        · exact h1 h
        · omega)]
theorem lines_ok (s : List UInt8) (w : World) (hl : s.length ≤ 1000000) : Calls Tryz.prog 9 #[strV s] w fun e w' => e = .returned (.int .i64 (linesN s : Nat)) ∧ w' = w := by
  have hz := str_size s
  have hln := (linesN_count s).2
  obtain ⟨N, hN⟩ : ∃ N, N = linesN s := ⟨_, rfl⟩
  rw [← hN] at hln ⊢
  have HN := Lib.hid hN
  clear hN
  go_enter Tryz.func9, Tryz.ntmps9
  go_wp2_with fail
  go_loop [3, 4] (fun nv i => ∃ (k n : Nat), k ≤ s.length ∧ i = .int .i64 (k : Nat) ∧ nv = .int .i64 (n : Nat) ∧ n + linesN (s.drop k) = N) (fun _ i => (s.length - Go.RowKit.intOf i).toNat)
  case atStart => exact ⟨0, 0, Nat.zero_le _, rfl, rfl, by rw [HN.out]; simp⟩
  case round =>
    obtain ⟨k, n, hk, rfl, rfl, hn⟩ := hrel
    by_cases hlt : k < s.length
    · have hs := linesN_drop s k hlt
      have hidx : ∀ w, (Instr.index 9 (strV s) (.int .i64 (k : Int))).run Tryz.prog w = .ok (.int .u8 (s[k].toNat : Int)) w := fun w => str_at w hlt rfl
      obtain ⟨c, hc⟩ : ∃ c, c = s[k] := ⟨_, rfl⟩
      rw [← hc] at hs hidx
      obtain ⟨M, hM⟩ : ∃ M, M = linesN (s.drop (k + 1)) := ⟨_, rfl⟩
      rw [← hM] at hs
      have HM := Lib.hid hM
      rw [hs] at hn
      clear hs hc hM
      by_cases h1 : c = 10
      · have k1 : ((c.toNat : Int) == 10) = true := by rw [h1]; rfl
        rw [if_pos (.inl h1)] at hn
        clear h1
        go_wp2_with fail
        go_round
        case rel => exact ⟨k + 1, n + 1, by omega, by go_num, by go_num, by rw [← HM.out]; omega⟩
        case measure => simp [Go.RowKit.intOf]; omega
      · have k1 : ((c.toNat : Int) == 10) = false := by
          rw [beq_eq_false_iff_ne]
          intro e
          exact h1 (UInt8.toNat_inj.1 (by have : c.toNat = 10 := by omega
                                          simpa using this))
        by_cases h2 : k + 1 = s.length
        · have k2 : ((k : Int) == (s.length : Int) - 1) = true := by rw [beq_iff_eq]; omega
          rw [if_pos (.inr h2)] at hn
          clear h1
          go_wp2_with fail
          go_round
          case rel => exact ⟨k + 1, n + 1, by omega, by go_num, by go_num, by rw [← HM.out]; omega⟩
          case measure => simp [Go.RowKit.intOf]; omega
        · have k2 : ((k : Int) == (s.length : Int) - 1) = false := by rw [beq_eq_false_iff_ne]; omega
          rw [if_neg (fun h => h.elim h1 h2)] at hn
          clear h1
          go_wp2_with fail
          go_round
          case rel => exact ⟨k + 1, n, by omega, by go_num, rfl, by rw [← HM.out]; omega⟩
          case measure => simp [Go.RowKit.intOf]; omega
    · obtain rfl : k = s.length := by omega
      rw [List.drop_length] at hn
      have hn2 : n = N := by simpa [linesN] using hn
      go_wp2_with fail
      go_ret
      exact ⟨by first | rfl | rw [hn2], rfl⟩
structure LineAt (s : List UInt8) (a f b : Nat) : Prop where
  ha : a ≤ s.length
  inn : ∀ i, i < f → ∃ h : a + i < s.length, s[a + i] ≠ 10
  out : (a + f = s.length ∧ b = s.length) ∨ ∃ h : a + f < s.length, s[a + f] = 10 ∧ b = a + f + 1
  b_ : b = a + linesLen 1 (s.drop a)
theorem LineAt.le {s : List UInt8} {a f b : Nat} (h : LineAt s a f b) : b ≤ s.length := by
  rcases h.out with ⟨_, h⟩ | ⟨h1, _, h⟩ <;> omega
end Go.Proofs.YtldjgpnbkbmgoaaGreatDoor

namespace Go.Proofs.YtldjgpnbkbmgoaaGreatDoor
open Go.RowKit Go.Lib
attribute [local go_sem ↓] load_req stop_req
def wrE (ss : List Nat) : Int := if ss.length < 1 ∨ 8 < ss.length then 1 else if ∀ s ∈ ss, s ≠ 0 then 0 else 40
theorem wrE_zero (ss : List Nat) : wrE ss = 0 ↔ 1 ≤ ss.length ∧ ss.length ≤ 8 ∧ ∀ s ∈ ss, s ≠ 0 := by
  unfold wrE
  by_cases h1 : ss.length < 1 ∨ 8 < ss.length
  · rw [if_pos h1]
    refine ⟨fun h => absurd h (by decide), fun h => ?_⟩
    omega
  · rw [if_neg h1]
    by_cases h2 : ∀ s ∈ ss, s ≠ 0
    · rw [if_pos h2]
      exact ⟨fun _ => ⟨by omega, by omega, h2⟩, fun _ => rfl⟩
    · rw [if_neg h2]
      exact ⟨fun h => absurd h (by decide), fun h => absurd h.2.2 h2⟩
theorem rwrong_ok (v : Value) (ss : List Nat) (w : World) (h : Sl usC w w.heap.size v ss) : Calls Tryz.prog 26 #[v] w fun e w' => e = .returned (.int .i64 (wrE ss)) ∧ Below w.heap.size w w' := by
  obtain ⟨A, ca, rfl, h1, h2, h3⟩ := h
  have H3 := Lib.hid h3
  clear h3 h2
  by_cases l1 : ss.length < 1
  · have HN := Lib.hid (show wrE ss = 1 by unfold wrE; rw [if_pos (.inl l1)])
    go_enter Tryz.func26, Tryz.ntmps26
    go_wp2_with fail
    go_ret
    exact ⟨by rw [HN.out]; try rfl, Below.refl _ _⟩
  by_cases l8 : 8 < ss.length
  · have HN := Lib.hid (show wrE ss = 1 by unfold wrE; rw [if_pos (.inr l8)])
    go_enter Tryz.func26, Tryz.ntmps26
    go_wp2_with fail
    go_ret
    exact ⟨by rw [HN.out]; try rfl, Below.refl _ _⟩
  go_enter Tryz.func26, Tryz.ntmps26
  go_wp2_with fail
  go_loop [3] (fun i => ∃ k : Nat, k ≤ ss.length ∧ i = .int .i64 (k : Nat) ∧ Hid (∀ s ∈ ss.take k, s ≠ 0)) (fun i => (ss.length - Go.RowKit.intOf i).toNat)
  case atStart => exact ⟨0, Nat.zero_le _, rfl, Lib.hid (by simp)⟩
  case round =>
    obtain ⟨k, hk, rfl, HALL⟩ := hrel
    by_cases hlt : k < ss.length
    · obtain ⟨b, off, rfl, hb, hlay⟩ := H3.out (by omega)
      have x0 := (hlay.elem usC_len k hlt).us
      rw [Nat.mul_one] at x0
      have HT := Lib.hid (List.take_succ_eq_append_getElem hlt)
      have hmem := List.getElem_mem hlt
      obtain ⟨s, hs⟩ : ∃ s, s = ss[k] := ⟨_, rfl⟩
      rw [← hs] at x0 HT hmem
      clear hlay hs
      by_cases h0 : s = 0
      · have HN := Lib.hid (show wrE ss = 40 by unfold wrE; rw [if_neg (by omega), if_neg (fun h => h s hmem h0)])
        have k0 : ((s : Int) == 0) = true := by simp [h0]
        clear hmem h0
        go_wp2_with fail
        go_ret
        exact ⟨by rw [HN.out]; try rfl, Below.refl _ _⟩
      · have k0 : ((s : Int) == 0) = false := by simpa using h0
        have HA2 := Lib.hid (show ∀ x ∈ ss.take (k + 1), x ≠ 0 from fun x hx => by
          rw [HT.out] at hx
          rcases List.mem_append.1 hx with hx | hx
          · exact HALL.out x hx
          · simp only [List.mem_cons, List.not_mem_nil, or_false] at hx
            rw [hx]
            exact h0)
        clear hmem h0
        go_wp2_with fail
        go_round
        case rel => exact ⟨k + 1, by omega, by go_num, HA2⟩
        case measure => simp [Go.RowKit.intOf]; omega
    · obtain rfl : k = ss.length := by omega
      rw [List.take_length] at HALL
      have HN := Lib.hid ((wrE_zero ss).2 ⟨by omega, by omega, HALL.out⟩)
      go_wp2_with fail
      go_ret
      exact ⟨by rw [HN.out]; try rfl, Below.refl _ _⟩
theorem rright29_ok (vs vi : Value) (ss : List Nat) (rs : List HRw) (w : World) (h : JSl w vs vi ss rs) : Calls Tryz.prog 12 #[vs, vi] w (BPost w (jobOk ss (xsOf rs))) := by
  have hfit := Lib.hid (fun r hr => And.intro (h.ok r hr).q (h.ok r hr).ib)
  have HS := Lib.hid h.s
  obtain ⟨A', ca', rfl, h1', h2', h3'⟩ := h.i
  have HWR := Lib.hid (rwrong_ok vs ss w HS.out)
  have H3' := Lib.hid h3'
  clear h3' h2' h
  obtain ⟨e0, he0⟩ : ∃ e0, e0 = wrE ss := ⟨_, rfl⟩
  rw [← he0] at HWR
  have hz := wrE_zero ss
  rw [← he0] at hz
  clear he0
  by_cases hw0 : e0 = 0
  · obtain ⟨z1, z8, z0⟩ := hz.1 hw0
    subst hw0
    have HALL := Lib.hid z0
    clear hz z0
    by_cases l9 : 1000 < rs.length
    · have HN := Lib.hid (jobOk_no (ss := ss) (rs := rs) (fun h => by omega))
      go_enter Tryz.func12, Tryz.ntmps12
      go_wp2_with fail
      refine HWR.out.mono ?_
      rintro e w1 ⟨rfl, hb⟩
      have HW := Lib.hid hb
      clear hb
      go_wp2_with fail
      go_ret
      exact ⟨by rw [HN.out]; try rfl, HW.out⟩
    go_enter Tryz.func12, Tryz.ntmps12
    go_wp2_with fail
    refine HWR.out.mono ?_
    rintro e w1 ⟨rfl, hb⟩
    have HW1 := Lib.hid hb
    clear hb
    go_wp2_with fail
    go_loopw [5] (fun i wr => ∃ k : Nat, k ≤ rs.length ∧ i = .int .i64 (k : Nat) ∧ Hid (Below w.heap.size w wr) ∧ Hid (∀ r ∈ rs.take k, itOk r.x = true)) (fun i _ => (rs.length - Go.RowKit.intOf i).toNat)
    case atStart => exact ⟨0, Nat.zero_le _, rfl, HW1, Lib.hid (by simp)⟩
    case round =>
      obtain ⟨k, hk, rfl, HW, HALL2⟩ := hrel
      have hsz := HW.out.size
      by_cases hlt : k < rs.length
      · obtain ⟨b, off, rfl, hb, hlay⟩ := H3'.out (by omega)
        have hrow := (hlay.of_heap (HW.out.block b hb)).elem hiC_len k hlt
        have HT := Lib.hid (List.take_succ_eq_append_getElem hlt)
        have hmem := List.getElem_mem hlt
        have hq := hfit.out rs[k] hmem
        obtain ⟨r, hr⟩ : ∃ r, r = rs[k] := ⟨_, rfl⟩
        rw [← hr] at hrow HT hmem hq
        have HROW := Lib.hid hrow
        have HR := Lib.hid (fun w => rmay_ok r w hq.1 hq.2)
        clear hrow hr hq hlay
        cases hok : itOk r.x
        · have HN := Lib.hid (jobOk_no (ss := ss) (rs := rs) (fun h => by have := h.2.2.2.2 r hmem; rw [hok] at this; cases this))
          rw [hok] at HR
          clear hmem hok
          go_wp2_with (refine load_arr rfl 75 (.tmp 22) rfl b (off + k * 29) rfl (hiA r) _ HROW.out Tryz.underlying75 rfl (rhit_size r) ?_)
          refine (HR.out _).mono ?_
          rintro e w4 ⟨rfl, hb4⟩
          have HW4 := Lib.hid (HW.out.trans (hb4.mono HW.out.size))
          clear hb4
          go_wp2_with fail
          go_ret
          exact ⟨by rw [HN.out]; try rfl, HW4.out⟩
        · have HA2 := Lib.hid (show ∀ x ∈ rs.take (k + 1), itOk x.x = true from fun x hx => by
            rw [HT.out] at hx
            rcases List.mem_append.1 hx with hx | hx
            · exact HALL2.out x hx
            · simp only [List.mem_cons, List.not_mem_nil, or_false] at hx
              rw [hx]
              exact hok)
          rw [hok] at HR
          clear hmem hok
          go_wp2_with (refine load_arr rfl 75 (.tmp 22) rfl b (off + k * 29) rfl (hiA r) _ HROW.out Tryz.underlying75 rfl (rhit_size r) ?_)
          refine (HR.out _).mono ?_
          rintro e w4 ⟨rfl, hb4⟩
          have HW4 := Lib.hid (HW.out.trans (hb4.mono HW.out.size))
          clear hb4
          go_wp2_with fail
          go_roundw
          case rel => exact ⟨k + 1, by omega, by go_num, HW4, HA2⟩
          case measure => simp [Go.RowKit.intOf]; omega
      · obtain rfl : k = rs.length := by omega
        rw [List.take_length] at HALL2
        have HY := Lib.hid (jobOk_xs.2 ⟨by omega, by omega, by omega, HALL.out, HALL2.out⟩)
        go_wp2_with fail
        go_ret
        exact ⟨by rw [HY.out]; try rfl, HW.out⟩
  · have HN := Lib.hid (jobOk_no (ss := ss) (rs := rs) (fun h => hw0 (hz.2 ⟨h.1, h.2.1, h.2.2.2.1⟩)))
    have k0 : (e0 != 0) = true := by simpa using hw0
    clear hz hw0
    go_enter Tryz.func12, Tryz.ntmps12
    go_wp2_with fail
    refine HWR.out.mono ?_
    rintro e w1 ⟨rfl, hb⟩
    have HW := Lib.hid hb
    clear hb
    go_wp2_with fail
    go_ret
    exact ⟨by rw [HN.out]; try rfl, HW.out⟩
theorem rhi_elem : ElemOk Tryz.prog 40 75 29 256 := ⟨Tryz.underlying40, by
  have h : (Tryz.prog.info? 75).map (fun i => (i.zero, i.size, i.bytes)) = some (some (.agg (hiA z0)), 29, 256) := by kernel_rfl
  obtain ⟨i, hi, h1, h2, h3⟩ := info_parts h
  exact ⟨i, _, hi, h1, h2, h3, rfl⟩, by omega⟩
theorem rhi_lit {ops : Array Oper} {rest : List Oper} {o : Oper} {f : Act} {w : World} {Q : Exit → Act → World → Prop} (hg : o.guard = none) (x : Operand) (ho : o.op = .buildSlice 40 1 #[(0, x)]) (r : HRw) (hx : f.eval x = .agg (hiA r))
    (h : wpList Tryz.prog ops Q rest (f.put o.dst (.slice (some ⟨w.heap.size, 0, none⟩) 1 1)) (w.alloc (.cells (hiA r) 75))) : wpList Tryz.prog ops Q (o :: rest) f w := by
  obtain ⟨ie, hie, hiz, his, hib⟩ : ∃ ie, Tryz.prog.info? 75 = some ie ∧ ie.zero = some (.agg (hiA z0)) ∧ ie.size = 29 ∧ ie.bytes = 256 := info_parts (by kernel_rfl)
  have hp : ((#[(0, x)] : Array (Nat × Operand)).map fun (i, x) => (i, f.eval x)).toList = [(0, Value.agg (hiA r))] := by simp [hx]
  refine wpList_buildSlice hg 40 75 1 _ ho (hiA r) ie _ Tryz.underlying40 hie hiz (by rw [his]; decide) (by rw [his]; decide) ?_ h
  rw [hp, his]
  exact hi_fill r
theorem items_ok (v : Value) (rs : List HRw) (w : World) (h : Sl hiC w w.heap.size v rs) (hl : rs.length ≤ 100000) : Calls Tryz.prog 13 #[v] w fun e w' => ∃ vr, e = .returned vr ∧ Own hiC 29 75 w' w.heap.size vr rs ∧ Below w.heap.size w w' := by
  obtain ⟨A, ca, rfl, h1, h2, h3⟩ := h
  have H3 := Lib.hid h3
  clear h3 h2
  go_enter Tryz.func13, Tryz.ntmps13
  go_wp2_with fail
  go_loopw [3, 4] (fun out i wr => ∃ (k : Nat) (q : List HRw) (A' : Option Addr) (c' : Nat), k ≤ rs.length ∧ i = .int .i64 (k : Nat) ∧ Hid (q = rs.take k) ∧ q.length ≤ k ∧ out = .slice A' q.length c' ∧ Hid (Own hiC 29 75 wr w.heap.size (.slice A' q.length c') q) ∧ Hid (Below w.heap.size w wr)) (fun _ i _ => (rs.length - Go.RowKit.intOf i).toNat)
  case atStart => exact ⟨0, [], none, 0, Nat.zero_le _, rfl, Lib.hid rfl, by simp, rfl, Lib.hid Own.nil, Lib.hid (Below.refl _ _)⟩
  case round =>
    obtain ⟨k, q, A', c', hk, rfl, HQ, hle, rfl, HO, HB⟩ := hrel
    have hsz := HB.out.size
    by_cases hlt : k < rs.length
    · obtain ⟨b, off, rfl, hb, hlay⟩ := H3.out (by omega)
      have hrow := (hlay.of_heap (HB.out.block b hb)).elem hiC_len k hlt
      have HTA := Lib.hid (List.take_succ_eq_append_getElem hlt)
      obtain ⟨r, hr⟩ : ∃ r, r = rs[k] := ⟨_, rfl⟩
      rw [← hr] at hrow HTA
      have HROW := Lib.hid hrow
      clear hrow hr hlay
      go_wp2_with (first
        | (refine load_arr rfl 62 (.tmp 14) rfl b (off + k * 29) rfl (hiA r) _ HROW.out Tryz.underlying62 rfl (hit_size r) ?_)
        | (refine rhi_lit rfl (.tmp 15) rfl r rfl ?_)
        | (at_builtin; refine app_one rhi_elem hi_enc rfl (.tmp 11) (.tmp 16) rfl rfl (HO.out.alloc _) r wr.heap.size 1 rfl (Blk.lay (Blk.new _ _ _)) (by unfold maxLen; omega) (by omega) (by simp; omega) ?_; intro g' cap w1 hown1 hgrow hat hlt1))
      have HO1 := Lib.hid hown1
      have HB1 := Lib.hid ((HB.out.alloc hsz _).grown hgrow (by simp; omega) (fun b hb => (HO.out.lt b hb).1))
      clear hown1 hgrow hat
      go_roundw
      case rel => exact ⟨k + 1, q ++ [r], some ⟨g', 0, none⟩, cap, by omega, by go_num, Lib.hid (by rw [HTA.out, HQ.out]), by simp; omega, by simp, Lib.hid (by simpa using HO1.out), HB1⟩
      case measure => simp [Go.RowKit.intOf]; omega
    · obtain rfl : k = rs.length := by omega
      obtain rfl : q = rs := by have := HQ.out; rwa [List.take_length] at this
      go_wp2_with fail
      go_ret
      exact ⟨_, rfl, HO.out, HB.out⟩
end Go.Proofs.YtldjgpnbkbmgoaaGreatDoor

namespace Go.Proofs.YtldjgpnbkbmgoaaGreatDoor
open Go.RowKit Go.Lib
attribute [local go_sem ↓] load_req stop_req
structure LP (w wx : World) (vs vi : Value) (ss : List Nat) (rs : List HRw) : Prop where
  b : Blk wx w.heap.size 26 (jC vs vi)
  j : JSl wx vs vi ss rs
  bel : Below w.heap.size w wx
theorem LP.to {w wx wy : World} {vs vi : Value} {ss : List Nat} {rs : List HRw} (h : LP w wx vs vi ss rs) (hb : Below wx.heap.size wx wy) : LP w wy vs vi ss rs :=
  ⟨h.b.below hb h.b.lt, h.j.below hb, h.bel.trans (hb.mono h.bel.size)⟩
theorem LP.drew {w wx : World} {vs vi : Value} {ss : List Nat} {rs : List HRw} (h : LP w wx vs vi ss rs) : LP w wx.drew vs vi ss rs := h.to (below_drew (Below.refl _ _))
theorem LP.start {w : World} {vs vi : Value} {ss : List Nat} {rs : List HRw} (h : JSl w vs vi ss rs) : LP w (w.alloc (.cells (jC vs vi) 26)) vs vi ss rs :=
  ⟨Blk.new w _ _, h.below ((Below.refl w.heap.size w).alloc (Nat.le_refl _) _), (Below.refl w.heap.size w).alloc (Nat.le_refl _) _⟩
theorem LP.cells {w wx : World} {vs vi : Value} {ss : List Nat} {rs : List HRw} (h : LP w wx vs vi ss rs) : wx.cell? ⟨w.heap.size, 0, none⟩ = some vs ∧ wx.cell? ⟨w.heap.size, 1, none⟩ = some vi := ⟨h.b.is 0 rfl, h.b.is 1 rfl⟩
abbrev Knows : Prop := ∀ w, Calls Tryz.prog 7 #[] w (fun e w' => e = .returned (.bool true) ∧ Below w.heap.size w w')
end Go.Proofs.YtldjgpnbkbmgoaaGreatDoor

