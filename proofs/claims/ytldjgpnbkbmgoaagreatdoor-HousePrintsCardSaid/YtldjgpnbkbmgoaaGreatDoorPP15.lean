/-
  The reference's Wrong, Right and Text of a job; the law's items and few. Conditions: as each states. HousePrints: the law. Conditions: what 'known' gives is a premise here.
-/
import Derived.Test.YtldjgpnbkbmgoaaGreatDoorPP12
import Derived.Test.YtldjgpnbkbmgoaaGreatDoorPP6
set_option linter.unusedSimpArgs false
set_option linter.unusedVariables false
set_option maxRecDepth 100000
set_option maxHeartbeats 8000000
namespace Go.Proofs.YtldjgpnbkbmgoaaGreatDoor
open Go.RowKit Go.Lib
attribute [local go_sem ↓] load_req stop_req
def wrE (ss : List Nat) : Int := if ss.length < 1 ∨ 8 < ss.length then 1 else if ∀ s ∈ ss, s ≠ 0 then 0 else 40
theorem wrE_zero (ss : List Nat) : wrE ss = 0 ↔ 1 ≤ ss.length ∧ ss.length ≤ 8 ∧ ∀ s ∈ ss, s ≠ 0 := by
  unfold wrE
  by_cases h1 : ss.length < 1 ∨ 8 < ss.length
  · rw [if_pos h1]
    refine ⟨fun h => absurd h (by decide), fun h => ?_⟩
    omega
  · rw [if_neg h1]
    by_cases h2 : ∀ s ∈ ss, s ≠ 0
    · rw [if_pos h2]
      exact ⟨fun _ => ⟨by omega, by omega, h2⟩, fun _ => rfl⟩
    · rw [if_neg h2]
      exact ⟨fun h => absurd h (by decide), fun h => absurd h.2.2 h2⟩
theorem rwrong_ok (v : Value) (ss : List Nat) (w : World) (h : Sl usC w w.heap.size v ss) : Calls Tryz.prog 26 #[v] w fun e w' => e = .returned (.int .i64 (wrE ss)) ∧ Below w.heap.size w w' := by
  obtain ⟨A, ca, rfl, h1, h2, h3⟩ := h
  have H3 := Lib.hid h3
  clear h3 h2
  by_cases l1 : ss.length < 1
  · have HN := Lib.hid (show wrE ss = 1 by unfold wrE; rw [if_pos (.inl l1)])
    go_enter Tryz.func26, Tryz.ntmps26
    go_wp2_with fail
    go_ret
    exact ⟨by rw [HN.out]; try rfl, Below.refl _ _⟩
  by_cases l8 : 8 < ss.length
  · have HN := Lib.hid (show wrE ss = 1 by unfold wrE; rw [if_pos (.inr l8)])
    go_enter Tryz.func26, Tryz.ntmps26
    go_wp2_with fail
    go_ret
    exact ⟨by rw [HN.out]; try rfl, Below.refl _ _⟩
  go_enter Tryz.func26, Tryz.ntmps26
  go_wp2_with fail
  go_loop [3] (fun i => ∃ k : Nat, k ≤ ss.length ∧ i = .int .i64 (k : Nat) ∧ Hid (∀ s ∈ ss.take k, s ≠ 0)) (fun i => (ss.length - Go.RowKit.intOf i).toNat)
  case atStart => exact ⟨0, Nat.zero_le _, rfl, Lib.hid (by simp)⟩
  case round =>
    obtain ⟨k, hk, rfl, HALL⟩ := hrel
    by_cases hlt : k < ss.length
    · obtain ⟨b, off, rfl, hb, hlay⟩ := H3.out (by omega)
      have x0 := (hlay.elem usC_len k hlt).us
      rw [Nat.mul_one] at x0
      have HT := Lib.hid (List.take_succ_eq_append_getElem hlt)
      have hmem := List.getElem_mem hlt
      obtain ⟨s, hs⟩ : ∃ s, s = ss[k] := ⟨_, rfl⟩
      rw [← hs] at x0 HT hmem
      clear hlay hs
      by_cases h0 : s = 0
      · have HN := Lib.hid (show wrE ss = 40 by unfold wrE; rw [if_neg (by omega), if_neg (fun h => h s hmem h0)])
        have k0 : ((s : Int) == 0) = true := by simp [h0]
        clear hmem h0
        go_wp2_with fail
        go_ret
        exact ⟨by rw [HN.out]; try rfl, Below.refl _ _⟩
      · have k0 : ((s : Int) == 0) = false := by simpa using h0
        have HA2 := Lib.hid (show ∀ x ∈ ss.take (k + 1), x ≠ 0 from fun x hx => by
          rw [HT.out] at hx
          rcases List.mem_append.1 hx with hx | hx
          · exact HALL.out x hx
          · simp only [List.mem_cons, List.not_mem_nil, or_false] at hx
            rw [hx]
            exact h0)
        clear hmem h0
        go_wp2_with fail
        go_round
        case rel => exact ⟨k + 1, by omega, by go_num, HA2⟩
        case measure => simp [Go.RowKit.intOf]; omega
    · obtain rfl : k = ss.length := by omega
      rw [List.take_length] at HALL
      have HN := Lib.hid ((wrE_zero ss).2 ⟨by omega, by omega, HALL.out⟩)
      go_wp2_with fail
      go_ret
      exact ⟨by rw [HN.out]; try rfl, Below.refl _ _⟩
theorem rright29_ok (vs vi : Value) (ss : List Nat) (rs : List HRw) (w : World) (h : JSl w vs vi ss rs) : Calls Tryz.prog 12 #[vs, vi] w (BPost w (jobOk ss (xsOf rs))) := by
  have hfit := Lib.hid (fun r hr => And.intro (h.ok r hr).q (h.ok r hr).ib)
  have HS := Lib.hid h.s
  obtain ⟨A', ca', rfl, h1', h2', h3'⟩ := h.i
  have HWR := Lib.hid (rwrong_ok vs ss w HS.out)
  have H3' := Lib.hid h3'
  clear h3' h2' h
  obtain ⟨e0, he0⟩ : ∃ e0, e0 = wrE ss := ⟨_, rfl⟩
  rw [← he0] at HWR
  have hz := wrE_zero ss
  rw [← he0] at hz
  clear he0
  by_cases hw0 : e0 = 0
  · obtain ⟨z1, z8, z0⟩ := hz.1 hw0
    subst hw0
    have HALL := Lib.hid z0
    clear hz z0
    by_cases l9 : 1000 < rs.length
    · have HN := Lib.hid (jobOk_no (ss := ss) (rs := rs) (fun h => by omega))
      go_enter Tryz.func12, Tryz.ntmps12
      go_wp2_with fail
      refine HWR.out.mono ?_
      rintro e w1 ⟨rfl, hb⟩
      have HW := Lib.hid hb
      clear hb
      go_wp2_with fail
      go_ret
      exact ⟨by rw [HN.out]; try rfl, HW.out⟩
    go_enter Tryz.func12, Tryz.ntmps12
    go_wp2_with fail
    refine HWR.out.mono ?_
    rintro e w1 ⟨rfl, hb⟩
    have HW1 := Lib.hid hb
    clear hb
    go_wp2_with fail
    go_loopw [5] (fun i wr => ∃ k : Nat, k ≤ rs.length ∧ i = .int .i64 (k : Nat) ∧ Hid (Below w.heap.size w wr) ∧ Hid (∀ r ∈ rs.take k, itOk r.x = true)) (fun i _ => (rs.length - Go.RowKit.intOf i).toNat)
    case atStart => exact ⟨0, Nat.zero_le _, rfl, HW1, Lib.hid (by simp)⟩
    case round =>
      obtain ⟨k, hk, rfl, HW, HALL2⟩ := hrel
      have hsz := HW.out.size
      by_cases hlt : k < rs.length
      · obtain ⟨b, off, rfl, hb, hlay⟩ := H3'.out (by omega)
        have hrow := (hlay.of_heap (HW.out.block b hb)).elem hiC_len k hlt
        have HT := Lib.hid (List.take_succ_eq_append_getElem hlt)
        have hmem := List.getElem_mem hlt
        have hq := hfit.out rs[k] hmem
        obtain ⟨r, hr⟩ : ∃ r, r = rs[k] := ⟨_, rfl⟩
        rw [← hr] at hrow HT hmem hq
        have HROW := Lib.hid hrow
        have HR := Lib.hid (fun w => rmay_ok r w hq.1 hq.2)
        clear hrow hr hq hlay
        cases hok : itOk r.x
        · have HN := Lib.hid (jobOk_no (ss := ss) (rs := rs) (fun h => by have := h.2.2.2.2 r hmem; rw [hok] at this; cases this))
          rw [hok] at HR
          clear hmem hok
          go_wp2_with (refine load_arr rfl 75 (.tmp 22) rfl b (off + k * 29) rfl (hiA r) _ HROW.out Tryz.underlying75 rfl (rhit_size r) ?_)
          refine (HR.out _).mono ?_
          rintro e w4 ⟨rfl, hb4⟩
          have HW4 := Lib.hid (HW.out.trans (hb4.mono HW.out.size))
          clear hb4
          go_wp2_with fail
          go_ret
          exact ⟨by rw [HN.out]; try rfl, HW4.out⟩
        · have HA2 := Lib.hid (show ∀ x ∈ rs.take (k + 1), itOk x.x = true from fun x hx => by
            rw [HT.out] at hx
            rcases List.mem_append.1 hx with hx | hx
            · exact HALL2.out x hx
            · simp only [List.mem_cons, List.not_mem_nil, or_false] at hx
              rw [hx]
              exact hok)
          rw [hok] at HR
          clear hmem hok
          go_wp2_with (refine load_arr rfl 75 (.tmp 22) rfl b (off + k * 29) rfl (hiA r) _ HROW.out Tryz.underlying75 rfl (rhit_size r) ?_)
          refine (HR.out _).mono ?_
          rintro e w4 ⟨rfl, hb4⟩
          have HW4 := Lib.hid (HW.out.trans (hb4.mono HW.out.size))
          clear hb4
          go_wp2_with fail
          go_roundw
          case rel => exact ⟨k + 1, by omega, by go_num, HW4, HA2⟩
          case measure => simp [Go.RowKit.intOf]; omega
      · obtain rfl : k = rs.length := by omega
        rw [List.take_length] at HALL2
        have HY := Lib.hid (jobOk_xs.2 ⟨by omega, by omega, by omega, HALL.out, HALL2.out⟩)
        go_wp2_with fail
        go_ret
        exact ⟨by rw [HY.out]; try rfl, HW.out⟩
  · have HN := Lib.hid (jobOk_no (ss := ss) (rs := rs) (fun h => hw0 (hz.2 ⟨h.1, h.2.1, h.2.2.2.1⟩)))
    have k0 : (e0 != 0) = true := by simpa using hw0
    clear hz hw0
    go_enter Tryz.func12, Tryz.ntmps12
    go_wp2_with fail
    refine HWR.out.mono ?_
    rintro e w1 ⟨rfl, hb⟩
    have HW := Lib.hid hb
    clear hb
    go_wp2_with fail
    go_ret
    exact ⟨by rw [HN.out]; try rfl, HW.out⟩
theorem rtext29_ok (vs vi : Value) (ss : List Nat) (rs : List HRw) (w : World) (h : JSl w vs vi ss rs) (hj : jobOk ss (xsOf rs) = true) : Calls Tryz.prog 15 #[vs, vi] w (SPost w (jobT ss (xsOf rs))) := by
  obtain ⟨j1, j2, j3, j4, j5⟩ := jobOk_xs.1 hj
  have HOK := Lib.hid h.ok
  have HSL := Lib.hid h.sl
  have HI := Lib.hid j5
  obtain ⟨A, ca, rfl, h1, h2, h3⟩ := h.s
  obtain ⟨A', ca', rfl, h1', h2', h3'⟩ := h.i
  have H3 := Lib.hid h3
  have H3' := Lib.hid h3'
  clear h3 h2 h3' h2' h hj j4 j5
  go_enter Tryz.func15, Tryz.ntmps15
  go_wp2_with fail
  go_loopw [5, 6] (fun sv i wr => ∃ k : Nat, k ≤ ss.length ∧ i = .int .i64 (k : Nat) ∧ sv = strV (secsT (ss.take k)) ∧ Hid (Below w.heap.size w wr)) (fun _ i _ => (ss.length - Go.RowKit.intOf i).toNat)
  case atStart => exact ⟨0, Nat.zero_le _, rfl, rfl, Lib.hid (Below.refl _ _)⟩
  case round =>
    obtain ⟨k, hk, rfl, rfl, HW⟩ := hrel
    by_cases hlt : k < ss.length
    · obtain ⟨b, off, rfl, hb, hlay⟩ := H3.out (by omega)
      have x0 := ((hlay.of_heap (HW.out.block b hb)).elem usC_len k hlt).us
      rw [Nat.mul_one] at x0
      have HT := Lib.hid (List.take_succ_eq_append_getElem hlt)
      have hs64 := HSL.out ss[k] (List.getElem_mem hlt)
      have hpl := secsT_len (ss.take k)
      have hkl := List.length_take_le k ss
      obtain ⟨s, hs⟩ : ∃ s, s = ss[k] := ⟨_, rfl⟩
      rw [← hs] at x0 HT hs64
      have HX := Lib.hid (fun w => rhexT_ok s w hs64)
      obtain ⟨p, hp⟩ : ∃ p, p = secsT (ss.take k) := ⟨_, rfl⟩
      rw [← hp] at hpl ⊢
      have hp3 : p.length ≤ 24 * 8 := by omega
      obtain ⟨t, ht⟩ : ∃ t, t = hexT s := ⟨_, rfl⟩
      have htl : t.length = 16 := by rw [ht]; exact hexF_len 16 _
      rw [← ht] at HX
      obtain ⟨q1, g1⟩ : ∃ q, q = p ++ [115, 101, 99, 114, 101, 116, 32] := ⟨_, rfl⟩
      have e1 : ∀ w, (Op.stringOp .add ⟨p.toArray⟩ ⟨#[115, 101, 99, 114, 101, 116, 32]⟩).run Tryz.prog w = .ok (strV q1) w := fun w => by rw [g1]; exact str_add p [115, 101, 99, 114, 101, 116, 32] (by simp; omega) w
      obtain ⟨q2, g2⟩ : ∃ q, q = q1 ++ t := ⟨_, rfl⟩
      have e2 : ∀ w, (Op.stringOp .add ⟨q1.toArray⟩ ⟨t.toArray⟩).run Tryz.prog w = .ok (strV q2) w := fun w => by rw [g2]; exact str_add q1 t (by simp [g1]; omega) w
      obtain ⟨q3, g3⟩ : ∃ q, q = q2 ++ [10] := ⟨_, rfl⟩
      have e3 : ∀ w, (Op.stringOp .add ⟨q2.toArray⟩ ⟨#[10]⟩).run Tryz.prog w = .ok (strV q3) w := fun w => by rw [g3]; exact str_add q2 [10] (by simp [g1, g2]; omega) w
      have HN := Lib.hid (show q3 = secsT (ss.take (k + 1)) by rw [HT.out, secsT_snoc, ← hp, g3, g2, g1, ht]; simp [secT, wSecret])
      clear hlay hs g1 g2 g3 hp ht hpl hkl
      go_wp2_with fail
      refine (HX.out _).mono ?_
      rintro e w2 ⟨rfl, rfl⟩
      go_wp2_with fail
      go_roundw
      case rel => exact ⟨k + 1, by omega, by go_num, by rw [HN.out]; try rfl, HW⟩
      case measure => simp [Go.RowKit.intOf]; omega
    · obtain rfl : k = ss.length := by omega
      rw [List.take_length]
      have hpl := secsT_len ss
      obtain ⟨p0, hp0⟩ : ∃ p, p = secsT ss := ⟨_, rfl⟩
      rw [← hp0] at hpl ⊢
      have HP0 := Lib.hid hp0
      have hp8 : p0.length ≤ 192 := by omega
      clear hp0 hpl
      go_wp2_with fail
      go_loopw [5, 7] (fun sv i wr => ∃ k : Nat, k ≤ rs.length ∧ i = .int .i64 (k : Nat) ∧ sv = strV (p0 ++ itsT ((xsOf rs).take k)) ∧ Hid (Below w.heap.size w wr)) (fun _ i _ => (rs.length - Go.RowKit.intOf i).toNat)
      case atStart => exact ⟨0, Nat.zero_le _, rfl, by simp [itsT], HW⟩
      case round =>
        obtain ⟨k, hk, rfl, rfl, HW⟩ := hrel
        have hsz := HW.out.size
        by_cases hlt : k < rs.length
        · obtain ⟨b, off, rfl, hb, hlay⟩ := H3'.out (by omega)
          have hrow := (hlay.of_heap (HW.out.block b hb)).elem hiC_len k hlt
          have hlx : k < (xsOf rs).length := by simpa [xsOf] using hlt
          have HT := Lib.hid (List.take_succ_eq_append_getElem hlx)
          have hmem := List.getElem_mem hlt
          have hio := HI.out rs[k] hmem
          have hok := (HOK.out rs[k] hmem).below HW.out
          have hrx : (xsOf rs)[k] = rs[k].x := by simp [xsOf]
          have hpl := itsT_len (xs := (xsOf rs).take k) (fun x hx => by
            obtain ⟨r, hr, rfl⟩ := List.mem_map.1 (List.mem_of_mem_take hx)
            exact HI.out r hr)
          have hkl := List.length_take_le k (xsOf rs)
          obtain ⟨r, hr⟩ : ∃ r, r = rs[k] := ⟨_, rfl⟩
          rw [hrx] at HT
          rw [← hr] at hrow HT hio hok
          have hll := itT_max r.x hio
          have HX := Lib.hid (rline29_ok r wr hok hio)
          have HROW := Lib.hid hrow
          obtain ⟨p, hp⟩ : ∃ p, p = p0 ++ itsT ((xsOf rs).take k) := ⟨_, rfl⟩
          have hp3 : p.length ≤ 192 + 30001 * 1000 := by rw [hp]; simp only [List.length_append]; omega
          rw [← hp]
          obtain ⟨t, ht⟩ : ∃ t, t = itT r.x := ⟨_, rfl⟩
          rw [← ht] at HX hll
          obtain ⟨q1, g1⟩ : ∃ q, q = p ++ t := ⟨_, rfl⟩
          have e1 : ∀ w, (Op.stringOp .add ⟨p.toArray⟩ ⟨t.toArray⟩).run Tryz.prog w = .ok (strV q1) w := fun w => by rw [g1]; exact str_add p t (by omega) w
          obtain ⟨q2, g2⟩ : ∃ q, q = q1 ++ [10] := ⟨_, rfl⟩
          have e2 : ∀ w, (Op.stringOp .add ⟨q1.toArray⟩ ⟨#[10]⟩).run Tryz.prog w = .ok (strV q2) w := fun w => by rw [g2]; exact str_add q1 [10] (by simp [g1]; omega) w
          have HN := Lib.hid (show q2 = p0 ++ itsT ((xsOf rs).take (k + 1)) by rw [HT.out, itsT_snoc, g2, g1, hp, ht]; simp)
          clear hrow hr hlay hio hok hrx hpl hkl hlx hp ht g1 g2 hmem
          go_wp2_with (refine load_arr rfl 75 (.tmp 32) rfl b (off + k * 29) rfl (hiA r) _ HROW.out Tryz.underlying75 rfl (rhit_size r) ?_)
          refine HX.out.mono ?_
          rintro e w4 ⟨rfl, hb4⟩
          have HW4 := Lib.hid (HW.out.trans (hb4.mono HW.out.size))
          clear hb4
          go_wp2_with fail
          go_roundw
          case rel => exact ⟨k + 1, by omega, by go_num, by rw [HN.out]; try rfl, HW4⟩
          case measure => simp [Go.RowKit.intOf]; omega
        · obtain rfl : k = rs.length := by omega
          have hta : (xsOf rs).take rs.length = xsOf rs := by rw [show rs.length = (xsOf rs).length by simp [xsOf], List.take_length]
          rw [hta]
          have HY := Lib.hid (show jobT ss (xsOf rs) = p0 ++ itsT (xsOf rs) by rw [HP0.out, jobT_eq])
          obtain ⟨q, hq⟩ : ∃ q, q = p0 ++ itsT (xsOf rs) := ⟨_, rfl⟩
          rw [← hq] at HY ⊢
          clear hta hq
          go_wp2_with fail
          go_ret
          exact ⟨by first | rfl | (rw [HY.out]; try rfl), HW.out⟩
theorem rhi_elem : ElemOk Tryz.prog 40 75 29 256 := ⟨Tryz.underlying40, by
  have h : (Tryz.prog.info? 75).map (fun i => (i.zero, i.size, i.bytes)) = some (some (.agg (hiA z0)), 29, 256) := by kernel_rfl
  obtain ⟨i, hi, h1, h2, h3⟩ := info_parts h
  exact ⟨i, _, hi, h1, h2, h3, rfl⟩, by omega⟩
theorem rhi_lit {ops : Array Oper} {rest : List Oper} {o : Oper} {f : Act} {w : World} {Q : Exit → Act → World → Prop} (hg : o.guard = none) (x : Operand) (ho : o.op = .buildSlice 40 1 #[(0, x)]) (r : HRw) (hx : f.eval x = .agg (hiA r))
    (h : wpList Tryz.prog ops Q rest (f.put o.dst (.slice (some ⟨w.heap.size, 0, none⟩) 1 1)) (w.alloc (.cells (hiA r) 75))) : wpList Tryz.prog ops Q (o :: rest) f w := by
  obtain ⟨ie, hie, hiz, his, hib⟩ : ∃ ie, Tryz.prog.info? 75 = some ie ∧ ie.zero = some (.agg (hiA z0)) ∧ ie.size = 29 ∧ ie.bytes = 256 := info_parts (by kernel_rfl)
  have hp : ((#[(0, x)] : Array (Nat × Operand)).map fun (i, x) => (i, f.eval x)).toList = [(0, Value.agg (hiA r))] := by simp [hx]
  refine wpList_buildSlice hg 40 75 1 _ ho (hiA r) ie _ Tryz.underlying40 hie hiz (by rw [his]; decide) (by rw [his]; decide) ?_ h
  rw [hp, his]
  exact hi_fill r
theorem items_ok (v : Value) (rs : List HRw) (w : World) (h : Sl hiC w w.heap.size v rs) (hl : rs.length ≤ 100000) : Calls Tryz.prog 13 #[v] w fun e w' => ∃ vr, e = .returned vr ∧ Own hiC 29 75 w' w.heap.size vr rs ∧ Below w.heap.size w w' := by
  obtain ⟨A, ca, rfl, h1, h2, h3⟩ := h
  have H3 := Lib.hid h3
  clear h3 h2
  go_enter Tryz.func13, Tryz.ntmps13
  go_wp2_with fail
  go_loopw [3, 4] (fun out i wr => ∃ (k : Nat) (q : List HRw) (A' : Option Addr) (c' : Nat), k ≤ rs.length ∧ i = .int .i64 (k : Nat) ∧ Hid (q = rs.take k) ∧ q.length ≤ k ∧ out = .slice A' q.length c' ∧ Hid (Own hiC 29 75 wr w.heap.size (.slice A' q.length c') q) ∧ Hid (Below w.heap.size w wr)) (fun _ i _ => (rs.length - Go.RowKit.intOf i).toNat)
  case atStart => exact ⟨0, [], none, 0, Nat.zero_le _, rfl, Lib.hid rfl, by simp, rfl, Lib.hid Own.nil, Lib.hid (Below.refl _ _)⟩
  case round =>
    obtain ⟨k, q, A', c', hk, rfl, HQ, hle, rfl, HO, HB⟩ := hrel
    have hsz := HB.out.size
    by_cases hlt : k < rs.length
    · obtain ⟨b, off, rfl, hb, hlay⟩ := H3.out (by omega)
      have hrow := (hlay.of_heap (HB.out.block b hb)).elem hiC_len k hlt
      have HTA := Lib.hid (List.take_succ_eq_append_getElem hlt)
      obtain ⟨r, hr⟩ : ∃ r, r = rs[k] := ⟨_, rfl⟩
      rw [← hr] at hrow HTA
      have HROW := Lib.hid hrow
      clear hrow hr hlay
      go_wp2_with (first
        | (refine load_arr rfl 62 (.tmp 14) rfl b (off + k * 29) rfl (hiA r) _ HROW.out Tryz.underlying62 rfl (hit_size r) ?_)
        | (refine rhi_lit rfl (.tmp 15) rfl r rfl ?_)
        | (at_builtin; refine app_one rhi_elem hi_enc rfl (.tmp 11) (.tmp 16) rfl rfl (HO.out.alloc _) r wr.heap.size 1 rfl (Blk.lay (Blk.new _ _ _)) (by unfold maxLen; omega) (by omega) (by simp; omega) ?_; intro g' cap w1 hown1 hgrow hat hlt1))
      have HO1 := Lib.hid hown1
      have HB1 := Lib.hid ((HB.out.alloc hsz _).grown hgrow (by simp; omega) (fun b hb => (HO.out.lt b hb).1))
      clear hown1 hgrow hat
      go_roundw
      case rel => exact ⟨k + 1, q ++ [r], some ⟨g', 0, none⟩, cap, by omega, by go_num, Lib.hid (by rw [HTA.out, HQ.out]), by simp; omega, by simp, Lib.hid (by simpa using HO1.out), HB1⟩
      case measure => simp [Go.RowKit.intOf]; omega
    · obtain rfl : k = rs.length := by omega
      obtain rfl : q = rs := by have := HQ.out; rwa [List.take_length] at this
      go_wp2_with fail
      go_ret
      exact ⟨_, rfl, HO.out, HB.out⟩
def fewB (ss : List Nat) (rs : List HRw) : Bool := decide (rs.length ≤ 60) && (decide (ss.length ≤ 20) && rs.all fun r => decide (r.x.bs.length ≤ 600))
theorem fewB_iff {ss : List Nat} {rs : List HRw} : fewB ss rs = true ↔ rs.length ≤ 60 ∧ ss.length ≤ 20 ∧ ∀ r ∈ rs, r.x.bs.length ≤ 600 := by
  unfold fewB
  simp only [Bool.and_eq_true, decide_eq_true_eq, List.all_eq_true]
theorem fewB_no {ss : List Nat} {rs : List HRw} (h : ¬ (rs.length ≤ 60 ∧ ss.length ≤ 20 ∧ ∀ r ∈ rs, r.x.bs.length ≤ 600)) : fewB ss rs = false := by
  cases hj : fewB ss rs with
  | false => rfl
  | true => exact absurd (fewB_iff.1 hj) h
theorem few_ok (vs vi : Value) (ss : List Nat) (rs : List HRw) (w : World) (h1 : Sl usC w w.heap.size vs ss) (h2 : Sl hiC w w.heap.size vi rs) : Calls Tryz.prog 10 #[.agg #[vs, vi]] w (BPost w (fewB ss rs)) := by
  have hb1 := Blk.new w 26 #[vs, vi]
  have hW1 := (Below.refl w.heap.size w).alloc (Nat.le_refl _) (.cells #[vs, vi] 26)
  obtain ⟨w1, hst1⟩ : ∃ w1, w.alloc (.cells #[vs, vi] 26) = w1 := ⟨_, rfl⟩
  rw [hst1] at hb1 hW1
  have HW1 := Lib.hid hW1
  obtain ⟨A, ca, rfl, a1, a2, a3⟩ := h1
  obtain ⟨A', ca', rfl, b1, b2, b3⟩ := h2
  have c0 : w1.cell? ⟨w.heap.size, 0, none⟩ = some (.slice A ss.length ca) := hb1.is 0 rfl
  have c1 : w1.cell? ⟨w.heap.size, 1, none⟩ = some (.slice A' rs.length ca') := hb1.is 1 rfl
  have H3' := Lib.hid b3
  clear a2 a3 b2 b3 hb1 hW1
  by_cases l1 : 60 < rs.length
  · have HN := Lib.hid (fewB_no (ss := ss) (rs := rs) (fun h => by omega))
    go_enter Tryz.func10, Tryz.ntmps10
    go_wp2_with fail
    go_ret
    exact ⟨by rw [HN.out]; try rfl, HW1.out⟩
  by_cases l8 : 20 < ss.length
  · have HN := Lib.hid (fewB_no (ss := ss) (rs := rs) (fun h => by omega))
    go_enter Tryz.func10, Tryz.ntmps10
    go_wp2_with fail
    go_ret
    exact ⟨by rw [HN.out]; try rfl, HW1.out⟩
  go_enter Tryz.func10, Tryz.ntmps10
  go_wp2_with fail
  go_loop [3] (fun i => ∃ k : Nat, k ≤ rs.length ∧ i = .int .i64 (k : Nat) ∧ Hid (∀ r ∈ rs.take k, r.x.bs.length ≤ 600)) (fun i => (rs.length - Go.RowKit.intOf i).toNat)
  case atStart => exact ⟨0, Nat.zero_le _, rfl, Lib.hid (by simp)⟩
  case round =>
    obtain ⟨k, hk, rfl, HALL⟩ := hrel
    by_cases hlt : k < rs.length
    · obtain ⟨b, off, rfl, hb, hlay⟩ := H3'.out (by omega)
      have hrow := (hlay.of_heap (HW1.out.block b hb)).elem hiC_len k hlt
      have HT := Lib.hid (List.take_succ_eq_append_getElem hlt)
      have hmem := List.getElem_mem hlt
      obtain ⟨r, hr⟩ : ∃ r, r = rs[k] := ⟨_, rfl⟩
      rw [← hr] at hrow HT hmem
      have x2 : w1.cell? ⟨b, off + k * 29 + 2, none⟩ = some (.slice r.A r.x.bs.length r.cap) := hrow 2 _ rfl
      clear hlay hr hrow
      by_cases h0 : 600 < r.x.bs.length
      · have HN := Lib.hid (fewB_no (ss := ss) (rs := rs) (fun h => by have := h.2.2 r hmem; omega))
        clear hmem
        go_wp2_with fail
        go_ret
        exact ⟨by rw [HN.out]; try rfl, HW1.out⟩
      · have HA2 := Lib.hid (show ∀ x ∈ rs.take (k + 1), x.x.bs.length ≤ 600 from fun x hx => by
          rw [HT.out] at hx
          rcases List.mem_append.1 hx with hx | hx
          · exact HALL.out x hx
          · simp only [List.mem_cons, List.not_mem_nil, or_false] at hx
            rw [hx]
            omega)
        clear hmem
        go_wp2_with fail
        go_round
        case rel => exact ⟨k + 1, by omega, by go_num, HA2⟩
        case measure => simp [Go.RowKit.intOf]; omega
    · obtain rfl : k = rs.length := by omega
      rw [List.take_length] at HALL
      have HY := Lib.hid (fewB_iff (ss := ss).2 ⟨by omega, by omega, HALL.out⟩)
      go_wp2_with fail
      go_ret
      exact ⟨by rw [HY.out]; try rfl, HW1.out⟩
end Go.Proofs.YtldjgpnbkbmgoaaGreatDoor

namespace Go.Proofs.YtldjgpnbkbmgoaaGreatDoor
open Go.RowKit Go.Lib
attribute [local go_sem ↓] load_req stop_req
structure LP (w wx : World) (vs vi : Value) (ss : List Nat) (rs : List HRw) : Prop where
  b : Blk wx w.heap.size 26 (jC vs vi)
  j : JSl wx vs vi ss rs
  bel : Below w.heap.size w wx
theorem LP.to {w wx wy : World} {vs vi : Value} {ss : List Nat} {rs : List HRw} (h : LP w wx vs vi ss rs) (hb : Below wx.heap.size wx wy) : LP w wy vs vi ss rs :=
  ⟨h.b.below hb h.b.lt, h.j.below hb, h.bel.trans (hb.mono h.bel.size)⟩
theorem LP.drew {w wx : World} {vs vi : Value} {ss : List Nat} {rs : List HRw} (h : LP w wx vs vi ss rs) : LP w wx.drew vs vi ss rs := h.to (below_drew (Below.refl _ _))
theorem LP.start {w : World} {vs vi : Value} {ss : List Nat} {rs : List HRw} (h : JSl w vs vi ss rs) : LP w (w.alloc (.cells (jC vs vi) 26)) vs vi ss rs :=
  ⟨Blk.new w _ _, h.below ((Below.refl w.heap.size w).alloc (Nat.le_refl _) _), (Below.refl w.heap.size w).alloc (Nat.le_refl _) _⟩
theorem LP.cells {w wx : World} {vs vi : Value} {ss : List Nat} {rs : List HRw} (h : LP w wx vs vi ss rs) : wx.cell? ⟨w.heap.size, 0, none⟩ = some vs ∧ wx.cell? ⟨w.heap.size, 1, none⟩ = some vi := ⟨h.b.is 0 rfl, h.b.is 1 rfl⟩
abbrev Knows : Prop := ∀ w, Calls Tryz.prog 7 #[] w (fun e w' => e = .returned (.bool true) ∧ Below w.heap.size w w')
theorem law_prints (HKn : Knows) (vs vi : Value) (ss : List Nat) (rs : List HRw) (w : World) (h : JSl w vs vi ss rs) : Calls Tryz.prog 4 #[.agg (jC vs vi)] w (fun e w' => e = .returned (.bool true) ∧ Below w.heap.size w w') := by
  have HK := Lib.hid HKn
  have h1 := LP.start h
  obtain ⟨w1, hst1⟩ : ∃ w1, w.alloc (.cells (jC vs vi) 26) = w1 := ⟨_, rfl⟩
  rw [hst1] at h1
  have H1 := Lib.hid h1
  have HFW := Lib.hid (fun wx (hx : LP w wx vs vi ss rs) => few_ok vs vi ss rs wx hx.j.s hx.j.i)
  clear h1 h HKn
  cases hf : fewB ss rs
  · rw [hf] at HFW
    clear hf
    go_enter Tryz.func4, Tryz.ntmps4
    go_wp2_with (refine load_bx rfl 26 (.tmp 1) rfl w.heap.size rfl 26 (jC vs vi) _ H1.out.b Tryz.underlying26 rfl (job_size _ _) ?_)
    refine (HFW.out _ H1.out).mono ?_
    rintro e w2 ⟨rfl, hb⟩
    have H2 := Lib.hid (H1.out.to hb)
    clear hb
    go_wp2_with fail
    refine (HK.out _).mono ?_
    rintro e w3 ⟨rfl, hb⟩
    have H3 := Lib.hid (H2.out.to hb)
    clear hb
    go_wp2_with fail
    go_ret
    exact ⟨rfl, H3.out.bel⟩
  · rw [hf] at HFW
    have hrl := (fewB_iff.1 hf).1
    have HPR := Lib.hid (fun wx (hx : LP w wx vs vi ss rs) => hPrint_ok vs vi ss rs wx hx.j)
    have HIT := Lib.hid (fun wx (hx : LP w wx vs vi ss rs) => items_ok vi rs wx hx.j.i (by omega))
    have HRR := Lib.hid (fun vr wx (hx : LP w wx vs vi ss rs) (hs : Sl hiC wx wx.heap.size vr rs) => rright29_ok vs vr ss rs wx ⟨hx.j.s, hs, hx.j.ok, hx.j.sl⟩)
    have HHR := Lib.hid (fun wx (hx : LP w wx vs vi ss rs) => hRight_ok vs vi ss rs wx hx.j)
    have HTX := Lib.hid (fun (hj : jobOk ss (xsOf rs) = true) vr wx (hx : LP w wx vs vi ss rs) (hs : Sl hiC wx wx.heap.size vr rs) => rtext29_ok vs vr ss rs wx ⟨hx.j.s, hs, hx.j.ok, hx.j.sl⟩ hj)
    unfold HPPost at HPR
    clear hf hrl
    cases hj : jobOk ss (xsOf rs)
    · rw [hj] at HPR HRR HHR
      simp only [Bool.false_eq_true, if_false] at HPR
      clear HTX hj
      go_enter Tryz.func4, Tryz.ntmps4
      go_wp2_with (refine load_bx rfl 26 (.tmp 1) rfl w.heap.size rfl 26 (jC vs vi) _ H1.out.b Tryz.underlying26 rfl (job_size _ _) ?_)
      refine (HFW.out _ H1.out).mono ?_
      rintro e w2 ⟨rfl, hb⟩
      have H2 := Lib.hid (H1.out.to hb)
      clear hb
      go_wp2_with (refine load_bx rfl 26 (.tmp 1) rfl w.heap.size rfl 26 (jC vs vi) _ H2.out.b Tryz.underlying26 rfl (job_size _ _) ?_)
      refine (HPR.out _ H2.out).mono ?_
      rintro e w3 ⟨rfl, hb⟩
      have h3 := H2.out.to hb
      have h3d := h3.drew
      clear hb
      go_upto_region 4 with fail
      go_region_held3 (fun wx => wx.cell? ⟨w.heap.size, 0, none⟩ = some vs ∧ wx.cell? ⟨w.heap.size, 1, none⟩ = some vi) (first | exact LP.cells (vs := vs) (vi := vi) (ss := ss) (rs := rs) (by assumption) | go_keep) (first
        | ((with_reducible refine (HIT.out _ (by assumption)).mono ?_); rintro e wa ⟨vr, rfl, ho, hba⟩; have hxa := LP.to (w := w) (vs := vs) (vi := vi) (ss := ss) (rs := rs) (by assumption) hba; have hsr := ho.sl; clear hba ho)
        | ((with_reducible refine (HRR.out _ _ (by assumption) (by assumption)).mono ?_); rintro e wb ⟨rfl, hbb⟩; have hxb := LP.to (w := w) (vs := vs) (vi := vi) (ss := ss) (rs := rs) (by assumption) hbb; clear hbb))
      all_goals
        have H4 : Hid (LP w _ vs vi ss rs) := Lib.hid hxb
        go_wp2_with (refine load_bx rfl 26 (.tmp 1) rfl w.heap.size rfl 26 (jC vs vi) _ H4.out.b Tryz.underlying26 rfl (job_size _ _) ?_)
        refine (HHR.out _ H4.out).mono ?_
        rintro e w5 ⟨rfl, hb⟩
        have H5 := Lib.hid (H4.out.to hb)
        clear hb
        go_wp2_with fail
        refine (HK.out _).mono ?_
        rintro e w6 ⟨rfl, hb⟩
        have H6 := Lib.hid (H5.out.to hb)
        clear hb
        go_wp2_with fail
        go_ret
        exact ⟨rfl, H6.out.bel⟩
    · rw [hj] at HPR HRR HHR
      simp only [if_true] at HPR
      have HTT := Lib.hid (HTX.out hj)
      clear HTX hj
      obtain ⟨X, hX⟩ : ∃ X, X = jobT ss (xsOf rs) := ⟨_, rfl⟩
      rw [← hX] at HPR HTT
      clear hX
      go_enter Tryz.func4, Tryz.ntmps4
      go_wp2_with (refine load_bx rfl 26 (.tmp 1) rfl w.heap.size rfl 26 (jC vs vi) _ H1.out.b Tryz.underlying26 rfl (job_size _ _) ?_)
      refine (HFW.out _ H1.out).mono ?_
      rintro e w2 ⟨rfl, hb⟩
      have H2 := Lib.hid (H1.out.to hb)
      clear hb
      go_wp2_with (refine load_bx rfl 26 (.tmp 1) rfl w.heap.size rfl 26 (jC vs vi) _ H2.out.b Tryz.underlying26 rfl (job_size _ _) ?_)
      refine (HPR.out _ H2.out).mono ?_
      rintro e w3 ⟨rfl, hb⟩
      have h3 := H2.out.to hb
      have h3d := h3.drew
      clear hb
      go_upto_region 4 with fail
      go_region_held3 (fun wx => wx.cell? ⟨w.heap.size, 0, none⟩ = some vs ∧ wx.cell? ⟨w.heap.size, 1, none⟩ = some vi) (first | exact LP.cells (vs := vs) (vi := vi) (ss := ss) (rs := rs) (by assumption) | go_keep) (first
        | ((with_reducible refine (HIT.out _ (by assumption)).mono ?_); rintro e wa ⟨vr, rfl, ho, hba⟩; have hxa := LP.to (w := w) (vs := vs) (vi := vi) (ss := ss) (rs := rs) (by assumption) hba; have hsr := ho.sl; clear hba ho)
        | ((with_reducible refine (HRR.out _ _ (by assumption) (by assumption)).mono ?_); rintro e wb ⟨rfl, hbb⟩; have hxb := LP.to (w := w) (vs := vs) (vi := vi) (ss := ss) (rs := rs) (by assumption) hbb; clear hbb))
      all_goals
        have H4 : Hid (LP w _ vs vi ss rs) := Lib.hid hxb
        go_wp2_with (refine load_bx rfl 26 (.tmp 1) rfl w.heap.size rfl 26 (jC vs vi) _ H4.out.b Tryz.underlying26 rfl (job_size _ _) ?_)
        refine (HHR.out _ H4.out).mono ?_
        rintro e w5 ⟨rfl, hb⟩
        have h5 := H4.out.to hb
        have h5d := h5.drew
        clear hb
        go_upto_region 9 with fail
        go_region_held3 (fun wx => wx.cell? ⟨w.heap.size, 0, none⟩ = some vs ∧ wx.cell? ⟨w.heap.size, 1, none⟩ = some vi) (first | exact LP.cells (vs := vs) (vi := vi) (ss := ss) (rs := rs) (by assumption) | go_keep) (first
          | ((with_reducible refine (HIT.out _ (by assumption)).mono ?_); rintro e wd ⟨vr', rfl, ho, hba⟩; have hxd := LP.to (w := w) (vs := vs) (vi := vi) (ss := ss) (rs := rs) (by assumption) hba; have hsd := ho.sl; clear hba ho)
          | ((with_reducible refine (HTT.out _ _ (by assumption) (by assumption)).mono ?_); rintro e we ⟨rfl, hbb⟩; have hxe := LP.to (w := w) (vs := vs) (vi := vi) (ss := ss) (rs := rs) (by assumption) hbb; clear hbb)
          | ((with_reducible refine (HK.out _).mono ?_); rintro e wf ⟨rfl, hbf⟩; have hxf := LP.to (w := w) (vs := vs) (vi := vi) (ss := ss) (rs := rs) (by assumption) hbf; clear hbf))
        all_goals
          go_wp2_with fail
          go_ret
          exact ⟨rfl, hxf.bel⟩
end Go.Proofs.YtldjgpnbkbmgoaaGreatDoor

