/-
  The reference: whether an answer may be written, and whether two are the same. Conditions: as each states.
  The reference's line of an answer, and its comparison of two. Conditions: as each states.
-/
import Derived.Test.YtbfbcbhnknhgnaaDoorAnsRefP
import Derived.Deep.QuietTactic
import Derived.BigQuiet
import Derived.Deep.RegionWith
namespace Go.Proofs.YtbfbcbhnknhgnaaDoor
open Go.RowKit

def SBool (w : World) (b : Bool) (e : Ending) (w' : World) : Prop := e = .returned (.bool b) ∧ w' = w
theorem nsB_take {ns : List Int} {k : Nat} (hk : k < ns.length) : nsB (ns.take (k + 1)) = (nsB (ns.take k) || tooB ns[k]) := by
  rw [List.take_succ_eq_append_getElem hk, nsB_snoc]
theorem nsB_of {ns : List Int} {k : Nat} (hk : k < ns.length) (h : tooB ns[k] = true) : nsB ns = true := by
  unfold nsB
  rw [List.any_eq_true]
  exact ⟨_, List.getElem_mem hk, h⟩

set_option maxRecDepth 100000 in
set_option maxHeartbeats 1000000 in
theorem rsmall_ok (ns : List Int) (g : Nat) (w : World) (hs : Lay w g 0 (ns.flatMap nmC)) (hn : ns.length ≤ 1000) : Calls Tryd.prog 36 #[.slice (some ⟨g, 0, none⟩) ns.length ns.length] w (SBool w (!nsB ns)) := by
  have HL := Lib.hid hs
  clear hs
  go_enter Tryd.func36, Tryd.ntmps36
  go_wp2
  go_loop [3] (fun iv => ∃ k, k ≤ ns.length ∧ iv = .int .i64 (k : Nat) ∧ nsB (ns.take k) = false) (fun iv => (ns.length - intOf iv).toNat)
  case atStart => exact ⟨0, Nat.zero_le _, rfl, rfl⟩
  case round =>
    obtain ⟨k, hk, rfl, hb⟩ := hrel
    by_cases hlt : k < ns.length
    · have hst := nsB_take hlt
      rw [hb, Bool.false_or] at hst
      have hof := fun h => nsB_of hlt h
      have x0 := (HL.out.elem nmC_len k hlt).nm
      rw [Nat.mul_one, Nat.zero_add] at x0
      obtain ⟨n, hnn⟩ : ∃ n, n = ns[k] := ⟨_, rfl⟩
      rw [← hnn] at x0 hst hof
      have hlti : (k : Int) < (ns.length : Int) := by omega
      have HST := Lib.hid hst
      have HOF := Lib.hid hof
      clear hst hof hb hnn
      by_cases h0 : n < 0
      · have hq : nsB ns = true := HOF.out (by unfold tooB; simp [h0])
        have HQ := Lib.hid hq
        clear hq
        go_wp2
        go_ret
        exact ⟨by rw [HQ.out]; rfl, rfl⟩
      · by_cases h1 : 4611686018427387903 < n
        · have hq : nsB ns = true := HOF.out (by unfold tooB; simp [h1])
          have HQ := Lib.hid hq
          clear hq
          go_wp2
          go_ret
          exact ⟨by rw [HQ.out]; rfl, rfl⟩
        · have h1' : n ≤ 4611686018427387903 := by omega
          have hq : nsB (ns.take (k + 1)) = false := by rw [HST.out]; unfold tooB; simp; omega
          have HQ := Lib.hid hq
          clear hq
          go_wp2
          go_round
          case rel => exact ⟨k + 1, by omega, by go_num, HQ.out⟩
          case measure => simp [intOf]; omega
    · obtain rfl : k = ns.length := by omega
      rw [List.take_length] at hb
      have HQ := Lib.hid hb
      clear hb
      go_wp2
      go_ret
      exact ⟨by rw [HQ.out]; rfl, rfl⟩

/-- Numbers in a slice that has just been built. -/
def Nums (w : World) (ns : List Int) (e : Ending) (w' : World) : Prop := ∃ g, e = .returned (.slice (some ⟨g, 0, none⟩) ns.length ns.length) ∧ Lay w' g 0 (ns.flatMap nmC) ∧ Below w.heap.size w w'
theorem nums_lay (w : World) (cs : Array Value) (ns : List Int) (h : cs.toList = ns.flatMap nmC) (g : Nat) (hg : g = w.heap.size) : Lay (w.alloc (.cells cs 3)) g 0 (ns.flatMap nmC) := by
  subst hg
  rw [← h]
  exact (Blk.new w 3 cs).lay
theorem rrecord_ok (a b c d : Int) (w : World) : Calls Tryd.prog 37 #[rcV a b c d] w (Nums w [a, b, c, d]) := by
  go_enter Tryd.func37, Tryd.ntmps37
  go_wp2
  go_ret
  exact ⟨_, rfl, nums_lay _ _ _ rfl _ (by simp), ((Below.refl _ _).alloc (Nat.le_refl _) _).alloc (by simp) _⟩
theorem rrect26_ok (a b c d : Int) (w : World) : Calls Tryd.prog 38 #[rcV a b c d] w (Nums w [a, b, c, d]) := by
  go_enter Tryd.func38, Tryd.ntmps38
  go_wp2
  go_ret
  exact ⟨_, rfl, nums_lay _ _ _ rfl _ (by simp), ((Below.refl _ _).alloc (Nat.le_refl _) _).alloc (by simp) _⟩
theorem revent_ok (a b c d : Int) (w : World) : Calls Tryd.prog 40 #[rcV a b c d] w (Nums w [a, b, c, d]) := by
  go_enter Tryd.func40, Tryd.ntmps40
  go_wp2
  go_ret
  exact ⟨_, rfl, nums_lay _ _ _ rfl _ (by simp), ((Below.refl _ _).alloc (Nat.le_refl _) _).alloc (by simp) _⟩
theorem rseen_ok (a b c d e f : Int) (w : World) : Calls Tryd.prog 39 #[.agg #[.int .i64 a, .int .i64 b, .int .i64 c, .int .i64 d, .int .i64 e, .int .i64 f]] w (Nums w [a, b, c, d, e, f]) := by
  go_enter Tryd.func39, Tryd.ntmps39
  go_wp2
  go_ret
  exact ⟨_, rfl, nums_lay _ _ _ rfl _ (by simp), ((Below.refl _ _).alloc (Nat.le_refl _) _).alloc (by simp) _⟩

/-- Where the reference reads an answer, in block ab. -/
structure AB (w wx : World) (ab : Nat) (cs : Array Value) : Prop where
  blk : Blk wx ab 48 cs
  bel : Below w.heap.size w wx
theorem AB.below {w wx wy : World} {ab : Nat} {cs : Array Value} (h : AB w wx ab cs) (hb : Below wx.heap.size wx wy) : AB w wy ab cs :=
  ⟨h.blk.below hb h.blk.lt, h.bel.trans (hb.mono h.bel.size)⟩
theorem AB.new (w : World) (cs : Array Value) : AB w (w.alloc (.cells cs 48)) w.heap.size cs := ⟨Blk.new w _ _, (Below.refl _ _).alloc (Nat.le_refl _) _⟩
theorem all_take {α : Type} {f : α → Bool} {l : List α} {k : Nat} (hk : k < l.length) (h : (l.take k).all f = true) (hf : f l[k] = true) : (l.take (k + 1)).all f = true := by
  rw [List.take_succ_eq_append_getElem hk, List.all_append, h]
  simp [hf]
theorem all_not {α : Type} {f : α → Bool} {l : List α} {k : Nat} (hk : k < l.length) (hf : f l[k] = false) : l.all f = false := by
  rw [List.all_eq_false]
  exact ⟨_, List.getElem_mem hk, by rw [hf]; decide⟩

set_option maxRecDepth 100000 in
set_option maxHeartbeats 4000000 in
theorem rmay_ok (w : World) (a : Ans) (sv ev : Value) (hs : Sl snC w w.heap.size sv a.seen) (he : Sl evC w w.heap.size ev a.events) (hn : a.seen.length ≤ 10000) (hm : a.events.length ≤ 10000) :
    Calls Tryd.prog 17 #[.agg (anC a sv ev)] w (BPost w (mayR a)) := by
  obtain ⟨sA, sC, rfl, hs1, hs2, hs3⟩ := hs
  obtain ⟨eA, eC, rfl, he1, he2, he3⟩ := he
  unfold maxLen at hs2 he2
  have HS3 := Lib.hid hs3
  have HE3 := Lib.hid he3
  have hp0 := AB.new w (anC a (.slice sA a.seen.length sC) (.slice eA a.events.length eC))
  obtain ⟨ab, hab⟩ : ∃ ab, w.heap.size = ab := ⟨_, rfl⟩
  obtain ⟨w0, hst0⟩ : ∃ w0, w.alloc (.cells (anC a (.slice sA a.seen.length sC) (.slice eA a.events.length eC)) 48) = w0 := ⟨_, rfl⟩
  rw [hst0, hab] at hp0
  have HP := Lib.hid hp0
  clear hs3 he3 hp0
  have c0 := (show World.cell? _ ⟨ab, 0, none⟩ = some (.int .i64 a.status) from HP.out.blk.is 0 rfl)
  by_cases k1 : a.status < 0
  · have hr : mayR a = false := by unfold mayR headR2; simp [show ¬ 0 ≤ a.status by omega]
    have HR := Lib.hid hr
    clear hr
    go_enter Tryd.func17, Tryd.ntmps17
    go_wp2_with fail
    go_ret
    exact ⟨by rw [HR.out]; rfl, HP.out.bel⟩
  by_cases k2 : 12 < a.status
  · have hr : mayR a = false := by unfold mayR headR2; simp [show ¬ a.status ≤ 12 by omega]
    have HR := Lib.hid hr
    clear hr
    go_enter Tryd.func17, Tryd.ntmps17
    go_wp2_with fail
    go_ret
    exact ⟨by rw [HR.out]; rfl, HP.out.bel⟩
  have c2 := (show World.cell? _ ⟨ab, 2, none⟩ = some (.int .i64 a.id) from HP.out.blk.is 2 rfl)
  have c3 := (show World.cell? _ ⟨ab, 3, none⟩ = some (.int .i64 a.ax) from HP.out.blk.is 3 rfl)
  have c4 := (show World.cell? _ ⟨ab, 4, none⟩ = some (.int .i64 a.ay) from HP.out.blk.is 4 rfl)
  have c5 := (show World.cell? _ ⟨ab, 5, none⟩ = some (.int .i64 a.label) from HP.out.blk.is 5 rfl)
  have hmr : mayR a = (!nsB [a.id, a.ax, a.ay, a.label] && !nsB [a.x0, a.y0, a.x1, a.y1] && (a.seen.all snQ && a.events.all evQ)) := by
    unfold mayR headR2
    rw [decide_eq_true (show 0 ≤ a.status by omega), decide_eq_true (show a.status ≤ 12 by omega)]
    simp
  have HMR := Lib.hid hmr
  have k2' : a.status ≤ 12 := by omega
  have k1' : 0 ≤ a.status := by omega
  clear hmr k1 k2
  go_enter Tryd.func17, Tryd.ntmps17
  go_wp2_with fail
  refine (rrecord_ok _ _ _ _ _).mono ?_
  rintro e w1 ⟨g, rfl, hlay, hb⟩
  have HP := Lib.hid (HP.out.below hb)
  have HL := Lib.hid hlay
  clear hlay hb c0 c2 c3 c4 c5 hst0
  go_wp2_with fail
  refine (rsmall_ok [a.id, a.ax, a.ay, a.label] g _ HL.out (by simp)).mono ?_
  rintro e w' ⟨rfl, hw'⟩
  rw [hw']
  clear hw' w' HL
  cases hr1 : nsB [a.id, a.ax, a.ay, a.label]
  case true =>
    have hr : mayR a = false := by rw [HMR.out, hr1]; rfl
    have HR := Lib.hid hr
    clear hr hr1
    go_wp2_with fail
    go_ret
    exact ⟨by rw [HR.out]; rfl, HP.out.bel⟩
  have HR1 := Lib.hid hr1
  clear hr1
  have c6 := (show World.cell? _ ⟨ab, 6, none⟩ = some (.int .i64 a.x0) from HP.out.blk.is 6 rfl)
  have c7 := (show World.cell? _ ⟨ab, 7, none⟩ = some (.int .i64 a.y0) from HP.out.blk.is 7 rfl)
  have c8 := (show World.cell? _ ⟨ab, 8, none⟩ = some (.int .i64 a.x1) from HP.out.blk.is 8 rfl)
  have c9 := (show World.cell? _ ⟨ab, 9, none⟩ = some (.int .i64 a.y1) from HP.out.blk.is 9 rfl)
  go_wp2_with fail
  refine (rrect26_ok _ _ _ _ _).mono ?_
  rintro e w2 ⟨g2, rfl, hlay, hb⟩
  have HP := Lib.hid (HP.out.below hb)
  have HL := Lib.hid hlay
  clear hlay hb c6 c7 c8 c9
  go_wp2_with fail
  refine (rsmall_ok [a.x0, a.y0, a.x1, a.y1] g2 _ HL.out (by simp)).mono ?_
  rintro e w' ⟨rfl, hw'⟩
  rw [hw']
  clear hw' w' HL
  cases hr2 : nsB [a.x0, a.y0, a.x1, a.y1]
  case true =>
    have hr : mayR a = false := by rw [HMR.out, hr2]; simp
    have HR := Lib.hid hr
    clear hr hr2
    go_wp2_with fail
    go_ret
    exact ⟨by rw [HR.out]; rfl, HP.out.bel⟩
  have hmr2 : mayR a = (a.seen.all snQ && a.events.all evQ) := by rw [HMR.out, HR1.out, hr2]; rfl
  have HMR := Lib.hid hmr2
  clear hmr2 hr2 HR1
  have c10 := (show World.cell? _ ⟨ab, 10, none⟩ = some (.slice sA a.seen.length sC) from HP.out.blk.is 10 rfl)
  go_wp2_with fail
  go_loopw [3] (fun iv wr => ∃ k, k ≤ a.seen.length ∧ iv = .int .i64 (k : Nat) ∧ (a.seen.take k).all snQ = true ∧ AB w wr ab (anC a (.slice sA a.seen.length sC) (.slice eA a.events.length eC))) (fun iv _ => (a.seen.length - intOf iv).toNat)
  case atStart => exact ⟨0, Nat.zero_le _, rfl, rfl, HP.out⟩
  case round =>
    obtain ⟨k, hk, rfl, hall, hps⟩ := hrel
    by_cases hlt : k < a.seen.length
    · obtain ⟨b, off, rfl, hbb, hlay⟩ := HS3.out (by omega)
      have hlay2 : Lay wr b off (a.seen.flatMap snC) := hlay.of_heap (hps.bel.block b hbb)
      have hel := hlay2.elem snC_len k hlt
      have hst := fun h => all_take hlt hall h
      have hno := fun h => all_not (f := snQ) hlt h
      obtain ⟨x, hx⟩ : ∃ x, x = a.seen[k] := ⟨_, rfl⟩
      rw [← hx] at hel hst hno
      have x0 := hel 0 _ rfl
      have x1 := hel 1 _ rfl
      have x2 := hel 2 _ rfl
      have x3 := hel 3 _ rfl
      have x4 := hel 4 _ rfl
      have x5 := hel 5 _ rfl
      rw [Nat.add_zero] at x0
      have hki : (k : Int) < (a.seen.length : Int) := by omega
      have HPS := Lib.hid hps
      have HST := Lib.hid hst
      have HNO := Lib.hid hno
      have c10 := (show World.cell? _ ⟨ab, 10, none⟩ = some (.slice (some ⟨b, off, none⟩) a.seen.length sC) from HPS.out.blk.is 10 rfl)
      clear hlay hlay2 hel hst hno hx hps hall
      go_wp2_with fail
      refine (rseen_ok _ _ _ _ _ _ _).mono ?_
      rintro e w3 ⟨g3, rfl, hlay, hb⟩
      have HPS := Lib.hid (HPS.out.below hb)
      have HL := Lib.hid hlay
      clear hlay hb x0 x1 x2 x3 x4 x5 c10
      go_wp2_with fail
      refine (rsmall_ok [x.id, x.level, x.x0, x.y0, x.x1, x.y1] g3 _ HL.out (by simp)).mono ?_
      rintro e w' ⟨rfl, hw'⟩
      rw [hw']
      clear hw' w' HL
      have hsq : (!nsB [x.id, x.level, x.x0, x.y0, x.x1, x.y1]) = snQ x := rfl
      rw [hsq]
      clear hsq
      cases hq : snQ x
      · have hr : mayR a = false := by rw [HMR.out, HNO.out hq]; rfl
        have HR := Lib.hid hr
        clear hr hq
        go_wp2_with fail
        go_ret
        exact ⟨by rw [HR.out]; rfl, HPS.out.bel⟩
      · have HQ := Lib.hid (HST.out hq)
        clear hq
        go_wp2_with fail
        go_roundw
        case rel => exact ⟨k + 1, by omega, by go_num, HQ.out, HPS.out⟩
        case measure => simp [intOf]; omega
    · obtain rfl : k = a.seen.length := by omega
      rw [List.take_length] at hall
      have hmr3 : mayR a = a.events.all evQ := by rw [HMR.out, hall]; rfl
      have HMR := Lib.hid hmr3
      have HPS := Lib.hid hps
      have c10 := (show World.cell? _ ⟨ab, 10, none⟩ = some (.slice sA a.seen.length sC) from HPS.out.blk.is 10 rfl)
      have c11 := (show World.cell? _ ⟨ab, 11, none⟩ = some (.slice eA a.events.length eC) from HPS.out.blk.is 11 rfl)
      clear hall hmr3 hps
      go_wp2_with fail
      go_loopw [4] (fun iv wr => ∃ k, k ≤ a.events.length ∧ iv = .int .i64 (k : Nat) ∧ (a.events.take k).all evQ = true ∧ AB w wr ab (anC a (.slice sA a.seen.length sC) (.slice eA a.events.length eC))) (fun iv _ => (a.events.length - intOf iv).toNat)
      case atStart => exact ⟨0, Nat.zero_le _, rfl, rfl, HPS.out⟩
      case round =>
        obtain ⟨k, hk, rfl, hall, hps⟩ := hrel
        by_cases hlt : k < a.events.length
        · obtain ⟨b, off, rfl, hbb, hlay⟩ := HE3.out (by omega)
          have hlay2 : Lay _ b off (a.events.flatMap evC) := hlay.of_heap (hps.bel.block b hbb)
          have hel := hlay2.elem evC_len k hlt
          have hst := fun h => all_take hlt hall h
          have hno := fun h => all_not (f := evQ) hlt h
          obtain ⟨x, hx⟩ : ∃ x, x = a.events[k] := ⟨_, rfl⟩
          rw [← hx] at hel hst hno
          have x0 := hel 0 _ rfl
          have x1 := hel 1 _ rfl
          have x2 := hel 2 _ rfl
          have x3 := hel 3 _ rfl
          rw [Nat.add_zero] at x0
          have hki : (k : Int) < (a.events.length : Int) := by omega
          have HPS := Lib.hid hps
          have HST := Lib.hid hst
          have HNO := Lib.hid hno
          have c11 := (show World.cell? _ ⟨ab, 11, none⟩ = some (.slice (some ⟨b, off, none⟩) a.events.length eC) from HPS.out.blk.is 11 rfl)
          clear hlay hlay2 hel hst hno hx hps hall c10
          go_wp2_with fail
          refine (revent_ok _ _ _ _ _).mono ?_
          rintro e w3 ⟨g3, rfl, hlay, hb⟩
          have HPS := Lib.hid (HPS.out.below hb)
          have HL := Lib.hid hlay
          clear hlay hb x0 x1 x2 x3 c11
          go_wp2_with fail
          refine (rsmall_ok [x.user, x.op, x.status, x.tick] g3 _ HL.out (by simp)).mono ?_
          rintro e w' ⟨rfl, hw'⟩
          rw [hw']
          clear hw' w' HL
          have hsq : (!nsB [x.user, x.op, x.status, x.tick]) = evQ x := rfl
          rw [hsq]
          clear hsq
          cases hq : evQ x
          · have hr : mayR a = false := by rw [HMR.out, HNO.out hq]
            have HR := Lib.hid hr
            clear hr hq
            go_wp2_with fail
            go_ret
            exact ⟨by rw [HR.out]; rfl, HPS.out.bel⟩
          · have HQ := Lib.hid (HST.out hq)
            clear hq
            go_wp2_with fail
            go_roundw
            case rel => exact ⟨k + 1, by omega, by go_num, HQ.out, HPS.out⟩
            case measure => simp [intOf]; omega
        · obtain rfl : k = a.events.length := by omega
          rw [List.take_length] at hall
          have HR := Lib.hid (show mayR a = true by rw [HMR.out, hall])
          have HPS := Lib.hid hps
          have c11 := (show World.cell? _ ⟨ab, 11, none⟩ = some (.slice eA a.events.length eC) from HPS.out.blk.is 11 rfl)
          clear hall hps c10
          go_wp2_with fail
          go_ret
          exact ⟨by rw [HR.out]; rfl, HPS.out.bel⟩
end Go.Proofs.YtbfbcbhnknhgnaaDoor

namespace Go.Proofs.YtbfbcbhnknhgnaaDoor
open Go.RowKit

theorem rsts2_ok (w : World) : Calls Tryd.prog 14 #[] w (TabPost w stsL) := by
  go_enter Tryd.func14, Tryd.ntmps14
  go_wp2
  go_ret
  exact ⟨rfl, rfl⟩
theorem stW_at2 {m : Nat} (h : m < stsL.length) : stW (m : Int) = stsL[m] := by
  have h13 : m < 13 := h
  unfold stW
  rw [if_pos (by omega), show ((m : Nat) : Int).toNat = m by omega, List.getD_eq_getElem?_getD, List.getElem?_eq_getElem h]
  rfl
theorem AB.drewN {w wx : World} {ab : Nat} {cs : Array Value} (h : AB w wx ab cs) (m : Nat) : AB w (wx.drewN m) ab cs := ⟨h.blk, below_drewN h.bel m⟩
theorem flat_le {α : Type} {f : α → List UInt8} {c : Nat} (hf : ∀ a, (f a).length ≤ c) (l : List α) : (l.flatMap f).length ≤ c * l.length := by
  induction l with
  | nil => simp
  | cons a l ih =>
    have := hf a
    simp only [List.flatMap_cons, List.length_append, List.length_cons, Nat.mul_add]
    omega
theorem snT_le (s : Sn) : (snT s).length ≤ 131 := by
  have := wordsT_len [s.id, s.level, s.x0, s.y0, s.x1, s.y1]
  unfold snT
  simp at this ⊢
  omega
theorem evT_le (s : Ev) : (evT s).length ≤ 90 := by
  have := wordsT_len [s.user, s.op, s.status, s.tick]
  unfold evT
  simp at this ⊢
  omega
theorem secT_le (a : Ans) : (secT a).length ≤ 24 := by
  unfold secT
  split
  · simp [hexT_len]
  · simp
theorem recT_le (a : Ans) : (recT a).length ≤ 91 := by
  have := wordsT_len [a.id, a.ax, a.ay, a.label]
  unfold recT
  split
  · simp at this ⊢
    omega
  · simp
theorem boxT_le (a : Ans) : (boxT a).length ≤ 88 := by
  have := wordsT_len [a.x0, a.y0, a.x1, a.y1]
  unfold boxT
  split
  · simp at this ⊢
    omega
  · simp
/-- Four tests, one of which may be true. -/
theorem pos_cases (a b c d : Int) : (posB a b c d = true ∧ (0 < a ∨ (¬ 0 < a ∧ 0 < b) ∨ (¬ 0 < a ∧ ¬ 0 < b ∧ 0 < c) ∨ (¬ 0 < a ∧ ¬ 0 < b ∧ ¬ 0 < c ∧ 0 < d))) ∨ (posB a b c d = false ∧ ¬ 0 < a ∧ ¬ 0 < b ∧ ¬ 0 < c ∧ ¬ 0 < d) := by
  unfold posB
  by_cases h1 : 0 < a <;> by_cases h2 : 0 < b <;> by_cases h3 : 0 < c <;> by_cases h4 : 0 < d <;> simp [h1, h2, h3, h4]

def RT (w : World) (ab : Nat) (cs : Array Value) (s : List UInt8) (v : Value) (wx : World) : Prop := v = strV s ∧ AB w wx ab cs

set_option maxRecDepth 100000 in
set_option maxHeartbeats 8000000 in
theorem rans_ok (w : World) (a : Ans) (sv ev : Value) (hs : Sl snC w w.heap.size sv a.seen) (he : Sl evC w w.heap.size ev a.events) (hn : a.seen.length ≤ 10000) (hm : a.events.length ≤ 10000) (hst : 0 ≤ a.status ∧ a.status ≤ 12) (hsec : a.secret < 18446744073709551616) :
    Calls Tryd.prog 19 #[.agg (anC a sv ev)] w (SPost w (ransT a)) := by
  obtain ⟨sA, sC, rfl, hs1, hs2, hs3⟩ := hs
  obtain ⟨eA, eC, rfl, he1, he2, he3⟩ := he
  unfold maxLen at hs2 he2
  have HS3 := Lib.hid hs3
  have HE3 := Lib.hid he3
  have HSEC := Lib.hid hsec
  have hp0 := AB.new w (anC a (.slice sA a.seen.length sC) (.slice eA a.events.length eC))
  obtain ⟨ab, hab⟩ : ∃ ab, w.heap.size = ab := ⟨_, rfl⟩
  obtain ⟨w0, hst0⟩ : ∃ w0, w.alloc (.cells (anC a (.slice sA a.seen.length sC) (.slice eA a.events.length eC)) 48) = w0 := ⟨_, rfl⟩
  rw [hst0, hab] at hp0
  have HP := Lib.hid hp0
  clear hs3 he3 hp0 hsec
  obtain ⟨n, hnn⟩ : ∃ n : Nat, a.status = (n : Int) := ⟨a.status.toNat, by omega⟩
  have hnl : n < stsL.length := by show n < 13; omega
  have c0 := (show World.cell? w0 ⟨ab, 0, none⟩ = some (.int .i64 (n : Int)) from by rw [← hnn]; exact HP.out.blk.is 0 rfl)
  have HT := Lib.hid (show ∀ w' : World, w' = w0.drew.alloc (.cells (wordsC stsL) 9) → AB w w' ab (anC a (.slice sA a.seen.length sC) (.slice eA a.events.length eC)) ∧ w'.cell? ⟨ab, 0, none⟩ = some (.int .i64 (n : Int)) ∧ w'.cell? ⟨w0.heap.size, n, none⟩ = some (strV stsL[n]) from fun w' hw' => by
    subst hw'
    have hb : Blk (w0.drew.alloc (.cells (wordsC stsL) 9)) ab 48 (anC a (.slice sA a.seen.length sC) (.slice eA a.events.length eC)) := Blk.alloc (show Blk w0.drew ab _ _ from HP.out.blk) _
    exact ⟨⟨hb, (below_drew HP.out.bel).alloc HP.out.bel.size _⟩, by rw [← hnn]; exact hb.is 0 rfl, words_cell w0.drew stsL n hnl⟩)
  have HW0 := Lib.hid (show stW a.status = stsL[n] by rw [hnn, stW_at2 hnl])
  obtain ⟨s0, hs0⟩ : ∃ s0, s0 = stsL[n] := ⟨_, rfl⟩
  rw [← hs0] at HW0 HT
  have hl0 : s0.length ≤ 20 := by rw [hs0]; exact (sts_few _ (List.getElem_mem hnl)).1
  have hn0 : (n : Int) < 13 := by omega
  have hn1 : (n : Int) < (stsL.length : Int) := by omega
  have hn2 : n < stsL.length := hnl
  clear hs0 hnl hnn hst
  go_enter Tryd.func19, Tryd.ntmps19
  go_upto_region 1 with fail
  go_cut [3] (fun v wx => RT w ab (anC a (.slice sA a.seen.length sC) (.slice eA a.events.length eC)) s0 v wx)
  case first =>
    go_region_with (go_at_call 14; refine (rsts2_ok _).mono ?_; rintro e w1 ⟨rfl, hw1⟩; have HTT := Lib.hid (HT.out w1 hw1); obtain ⟨-, t1, t2⟩ := HTT.out; clear hw1)
    all_goals
      go_wp2_with fail
      go_meet
      exact ⟨rfl, HTT.out.1⟩
  case rest =>
    obtain ⟨rfl, hp⟩ := hcut
    have HP := Lib.hid hp
    clear hp HT c0 hst0 hn0 hn1 hn2
    have c1 := (show World.cell? _ ⟨ab, 1, none⟩ = some (.int .u64 (a.secret : Nat)) from HP.out.blk.is 1 rfl)
    have lS := secT_le a
    have lR := recT_le a
    have lB := boxT_le a
    go_upto_if 13 with fail
    go_cut [3] (fun v wx => RT w ab (anC a (.slice sA a.seen.length sC) (.slice eA a.events.length eC)) (s0 ++ secT a) v wx)
    case first =>
      by_cases h0 : 0 < a.secret
      · have ht : (0 : Int) < (a.secret : Int) := by omega
        have hX : secT a = [32, 115, 101, 99, 114, 101, 116, 32] ++ hexT a.secret := by unfold secT; rw [if_pos h0]
        have hl := hexT_len a.secret
        have HX := Lib.hid hX
        have HH := Lib.hid (fun w => rhexT_ok a.secret w HSEC.out)
        obtain ⟨x, hx⟩ : ∃ x, x = hexT a.secret := ⟨_, rfl⟩
        rw [← hx] at HX HH hl
        obtain ⟨s1, hs1'⟩ : ∃ y, y = s0 ++ [32, 115, 101, 99, 114, 101, 116, 32] := ⟨_, rfl⟩
        have f1 := fun w => str_add s0 [32, 115, 101, 99, 114, 101, 116, 32] (by simp; omega) w
        rw [← hs1'] at f1
        have f2 := fun w => str_add s1 x (by rw [hs1']; simp; omega) w
        have HS1 := Lib.hid hs1'
        clear hX hx hl hs1' h0
        go_wp2_with fail
        refine (HH.out _).mono ?_
        rintro e w' ⟨rfl, hw'⟩
        rw [hw']
        clear hw' w'
        go_wp2_with fail
        go_meet
        exact ⟨by rw [HX.out, HS1.out, List.append_assoc], HP.out⟩
      · have ht : ¬ (0 : Int) < (a.secret : Int) := by omega
        have hX : secT a = [] := by unfold secT; rw [if_neg h0]
        have HX := Lib.hid hX
        clear hX h0
        go_wp2_with fail
        go_meet
        exact ⟨by rw [HX.out, List.append_nil], HP.out⟩
    case rest =>
      obtain ⟨rfl, hp⟩ := hcut
      have HP := Lib.hid hp
      clear hp c1
      obtain ⟨s2, hs2'⟩ : ∃ y, y = s0 ++ secT a := ⟨_, rfl⟩
      have l2 : s2.length ≤ 44 := by rw [hs2', List.length_append]; omega
      have H2 := Lib.hid hs2'
      rw [← hs2']
      clear hs2'
      have c2 := (show World.cell? _ ⟨ab, 2, none⟩ = some (.int .i64 a.id) from HP.out.blk.is 2 rfl)
      have c3 := (show World.cell? _ ⟨ab, 3, none⟩ = some (.int .i64 a.ax) from HP.out.blk.is 3 rfl)
      have c4 := (show World.cell? _ ⟨ab, 4, none⟩ = some (.int .i64 a.ay) from HP.out.blk.is 4 rfl)
      have c5 := (show World.cell? _ ⟨ab, 5, none⟩ = some (.int .i64 a.label) from HP.out.blk.is 5 rfl)
      go_upto_region 4 with fail
      go_cut [43] (fun c wx => c = .bool (posB a.id a.ax a.ay a.label) ∧ AB w wx ab (anC a (.slice sA a.seen.length sC) (.slice eA a.events.length eC)))
      case first =>
        rcases pos_cases a.id a.ax a.ay a.label with ⟨hb, t1 | ⟨t1, t2⟩ | ⟨t1, t2, t3⟩ | ⟨t1, t2, t3, t4⟩⟩ | ⟨hb, t1, t2, t3, t4⟩
        all_goals
          have HB := Lib.hid hb
          clear hb
          go_wp2_with fail
          go_meet
          exact ⟨by rw [HB.out], HP.out⟩
      case rest =>
        obtain ⟨rfl, hp⟩ := hcut
        have HP := Lib.hid hp
        clear hp c2 c3 c4 c5
        have c2 := (show World.cell? _ ⟨ab, 2, none⟩ = some (.int .i64 a.id) from HP.out.blk.is 2 rfl)
        have c3 := (show World.cell? _ ⟨ab, 3, none⟩ = some (.int .i64 a.ax) from HP.out.blk.is 3 rfl)
        have c4 := (show World.cell? _ ⟨ab, 4, none⟩ = some (.int .i64 a.ay) from HP.out.blk.is 4 rfl)
        have c5 := (show World.cell? _ ⟨ab, 5, none⟩ = some (.int .i64 a.label) from HP.out.blk.is 5 rfl)
        go_upto_if 43 with fail
        go_cut [3] (fun v wx => RT w ab (anC a (.slice sA a.seen.length sC) (.slice eA a.events.length eC)) (s2 ++ recT a) v wx)
        case first =>
          cases hb : posB a.id a.ax a.ay a.label
          case true =>
            have hX : recT a = [32, 114, 101, 99, 111, 114, 100] ++ wordsT [a.id, a.ax, a.ay, a.label] := by unfold recT; rw [if_pos hb]
            have hl := wordsT_len [a.id, a.ax, a.ay, a.label]
            have HX := Lib.hid hX
            obtain ⟨x, hx⟩ : ∃ x, x = wordsT [a.id, a.ax, a.ay, a.label] := ⟨_, rfl⟩
            rw [← hx] at HX hl
            have HY := Lib.hid hx
            obtain ⟨s1, hs1'⟩ : ∃ y, y = s2 ++ [32, 114, 101, 99, 111, 114, 100] := ⟨_, rfl⟩
            have f1 := fun w => str_add s2 [32, 114, 101, 99, 111, 114, 100] (by simp; omega) w
            rw [← hs1'] at f1
            have f2 := fun w => str_add s1 x (by rw [hs1']; simp at hl ⊢; omega) w
            have HS1 := Lib.hid hs1'
            clear hX hx hl hs1' hb
            go_wp2_with fail
            refine (rrecord_ok _ _ _ _ _).mono ?_
            rintro e w2 ⟨g2, rfl, hlay, hbl⟩
            have HP := Lib.hid (HP.out.below hbl)
            have HL := Lib.hid hlay
            clear hlay hbl c2 c3 c4 c5
            go_wp2_with fail
            refine (rwords_ok [a.id, a.ax, a.ay, a.label] g2 _ HL.out (by simp)).mono ?_
            rintro e w3 ⟨rfl, m3, hw3⟩
            have HP := Lib.hid (show AB w w3 ab (anC a (.slice sA a.seen.length sC) (.slice eA a.events.length eC)) by rw [hw3]; exact HP.out.drewN m3)
            rw [← HY.out]
            clear hw3 HL
            go_wp2_with fail
            go_meet
            exact ⟨by rw [HX.out, HS1.out, List.append_assoc], HP.out⟩
          case false =>
            have hX : recT a = [] := by unfold recT; rw [if_neg (by rw [hb]; decide)]
            have HX := Lib.hid hX
            clear hX hb
            go_wp2_with fail
            go_meet
            exact ⟨by rw [HX.out, List.append_nil], HP.out⟩
        case rest =>
          obtain ⟨rfl, hp⟩ := hcut
          have HP := Lib.hid hp
          clear hp c2 c3 c4 c5
          obtain ⟨s3, hs3'⟩ : ∃ y, y = s2 ++ recT a := ⟨_, rfl⟩
          have l3 : s3.length ≤ 135 := by rw [hs3', List.length_append]; omega
          have H3 := Lib.hid hs3'
          rw [← hs3']
          clear hs3'
          have c6 := (show World.cell? _ ⟨ab, 6, none⟩ = some (.int .i64 a.x0) from HP.out.blk.is 6 rfl)
          have c7 := (show World.cell? _ ⟨ab, 7, none⟩ = some (.int .i64 a.y0) from HP.out.blk.is 7 rfl)
          have c8 := (show World.cell? _ ⟨ab, 8, none⟩ = some (.int .i64 a.x1) from HP.out.blk.is 8 rfl)
          have c9 := (show World.cell? _ ⟨ab, 9, none⟩ = some (.int .i64 a.y1) from HP.out.blk.is 9 rfl)
          go_upto_region 6 with fail
          go_cut [72] (fun c wx => c = .bool (posB a.x0 a.y0 a.x1 a.y1) ∧ AB w wx ab (anC a (.slice sA a.seen.length sC) (.slice eA a.events.length eC)))
          case first =>
            rcases pos_cases a.x0 a.y0 a.x1 a.y1 with ⟨hb, t1 | ⟨t1, t2⟩ | ⟨t1, t2, t3⟩ | ⟨t1, t2, t3, t4⟩⟩ | ⟨hb, t1, t2, t3, t4⟩
            all_goals
              have HB := Lib.hid hb
              clear hb
              go_wp2_with fail
              go_meet
              exact ⟨by rw [HB.out], HP.out⟩
          case rest =>
            obtain ⟨rfl, hp⟩ := hcut
            have HP := Lib.hid hp
            clear hp c6 c7 c8 c9
            have c6 := (show World.cell? _ ⟨ab, 6, none⟩ = some (.int .i64 a.x0) from HP.out.blk.is 6 rfl)
            have c7 := (show World.cell? _ ⟨ab, 7, none⟩ = some (.int .i64 a.y0) from HP.out.blk.is 7 rfl)
            have c8 := (show World.cell? _ ⟨ab, 8, none⟩ = some (.int .i64 a.x1) from HP.out.blk.is 8 rfl)
            have c9 := (show World.cell? _ ⟨ab, 9, none⟩ = some (.int .i64 a.y1) from HP.out.blk.is 9 rfl)
            go_upto_if 72 with fail
            go_cut [3] (fun v wx => RT w ab (anC a (.slice sA a.seen.length sC) (.slice eA a.events.length eC)) (s3 ++ boxT a) v wx)
            case first =>
              cases hb : posB a.x0 a.y0 a.x1 a.y1
              case true =>
                have hX : boxT a = [32, 98, 111, 120] ++ wordsT [a.x0, a.y0, a.x1, a.y1] := by unfold boxT; rw [if_pos hb]
                have hl := wordsT_len [a.x0, a.y0, a.x1, a.y1]
                have HX := Lib.hid hX
                obtain ⟨x, hx⟩ : ∃ x, x = wordsT [a.x0, a.y0, a.x1, a.y1] := ⟨_, rfl⟩
                rw [← hx] at HX hl
                have HY := Lib.hid hx
                obtain ⟨s1, hs1'⟩ : ∃ y, y = s3 ++ [32, 98, 111, 120] := ⟨_, rfl⟩
                have f1 := fun w => str_add s3 [32, 98, 111, 120] (by simp; omega) w
                rw [← hs1'] at f1
                have f2 := fun w => str_add s1 x (by rw [hs1']; simp at hl ⊢; omega) w
                have HS1 := Lib.hid hs1'
                clear hX hx hl hs1' hb
                go_wp2_with fail
                refine (rrect26_ok _ _ _ _ _).mono ?_
                rintro e w2 ⟨g2, rfl, hlay, hbl⟩
                have HP := Lib.hid (HP.out.below hbl)
                have HL := Lib.hid hlay
                clear hlay hbl c6 c7 c8 c9
                go_wp2_with fail
                refine (rwords_ok [a.x0, a.y0, a.x1, a.y1] g2 _ HL.out (by simp)).mono ?_
                rintro e w3 ⟨rfl, m3, hw3⟩
                have HP := Lib.hid (show AB w w3 ab (anC a (.slice sA a.seen.length sC) (.slice eA a.events.length eC)) by rw [hw3]; exact HP.out.drewN m3)
                rw [← HY.out]
                clear hw3 HL
                go_wp2_with fail
                go_meet
                exact ⟨by rw [HX.out, HS1.out, List.append_assoc], HP.out⟩
              case false =>
                have hX : boxT a = [] := by unfold boxT; rw [if_neg (by rw [hb]; decide)]
                have HX := Lib.hid hX
                clear hX hb
                go_wp2_with fail
                go_meet
                exact ⟨by rw [HX.out, List.append_nil], HP.out⟩
            case rest =>
              obtain ⟨rfl, hp⟩ := hcut
              have HP := Lib.hid hp
              clear hp c6 c7 c8 c9
              obtain ⟨s4, hs4'⟩ : ∃ y, y = s3 ++ boxT a := ⟨_, rfl⟩
              have l4 : s4.length ≤ 223 := by rw [hs4', List.length_append]; omega
              have H4 := Lib.hid hs4'
              rw [← hs4']
              clear hs4' lS lR lB l2 l3 hl0
              have c10 := (show World.cell? _ ⟨ab, 10, none⟩ = some (.slice sA a.seen.length sC) from HP.out.blk.is 10 rfl)
              go_wp2_with fail
              go_loopw [3, 4] (fun v iv wr => ∃ k, k ≤ a.seen.length ∧ iv = .int .i64 (k : Nat) ∧ RT w ab (anC a (.slice sA a.seen.length sC) (.slice eA a.events.length eC)) (s4 ++ (a.seen.take k).flatMap snT) v wr) (fun _ iv _ => (a.seen.length - intOf iv).toNat)
              case atStart => exact ⟨0, Nat.zero_le _, rfl, by simp, HP.out⟩
              case round =>
                obtain ⟨k, hk, rfl, rfl, hps⟩ := hrel
                have hfl := flat_le snT_le (a.seen.take k)
                have hfk := List.length_take_le k a.seen
                by_cases hlt : k < a.seen.length
                · obtain ⟨b, off, rfl, hbb, hlay⟩ := HS3.out (by omega)
                  have hlay2 : Lay wr b off (a.seen.flatMap snC) := hlay.of_heap (hps.bel.block b hbb)
                  have hel := hlay2.elem snC_len k hlt
                  have hst : (a.seen.take (k + 1)).flatMap snT = (a.seen.take k).flatMap snT ++ snT a.seen[k] := by rw [List.take_succ_eq_append_getElem hlt, List.flatMap_append]; simp
                  obtain ⟨x, hx⟩ : ∃ x, x = a.seen[k] := ⟨_, rfl⟩
                  rw [← hx] at hel hst
                  have x0 := hel 0 _ rfl
                  have x1 := hel 1 _ rfl
                  have x2 := hel 2 _ rfl
                  have x3 := hel 3 _ rfl
                  have x4 := hel 4 _ rfl
                  have x5 := hel 5 _ rfl
                  rw [Nat.add_zero] at x0
                  have hki : (k : Int) < (a.seen.length : Int) := by omega
                  have HPS := Lib.hid hps
                  have HST := Lib.hid hst
                  have c10 := (show World.cell? _ ⟨ab, 10, none⟩ = some (.slice (some ⟨b, off, none⟩) a.seen.length sC) from HPS.out.blk.is 10 rfl)
                  obtain ⟨y, hy⟩ : ∃ y, y = s4 ++ (a.seen.take k).flatMap snT := ⟨_, rfl⟩
                  have hyl : y.length ≤ 2000000 := by rw [hy, List.length_append]; omega
                  rw [← hy]
                  have HY := Lib.hid hy
                  have hl := wordsT_len [x.id, x.level, x.x0, x.y0, x.x1, x.y1]
                  obtain ⟨z, hz⟩ : ∃ z, z = wordsT [x.id, x.level, x.x0, x.y0, x.x1, x.y1] := ⟨_, rfl⟩
                  rw [← hz] at hl
                  have HZ := Lib.hid hz
                  obtain ⟨y1, hy1⟩ : ∃ u, u = y ++ [32, 115, 101, 101, 110] := ⟨_, rfl⟩
                  have f1 := fun w => str_add y [32, 115, 101, 101, 110] (by simp; omega) w
                  rw [← hy1] at f1
                  have f2 := fun w => str_add y1 z (by rw [hy1]; simp at hl ⊢; omega) w
                  have HY1 := Lib.hid hy1
                  clear hlay hlay2 hel hst hx hps hy hyl hl hz hy1 hfl hfk
                  go_wp2_with fail
                  refine (rseen_ok _ _ _ _ _ _ _).mono ?_
                  rintro e w3 ⟨g3, rfl, hlay, hb⟩
                  have HPS := Lib.hid (HPS.out.below hb)
                  have HL := Lib.hid hlay
                  clear hlay hb x0 x1 x2 x3 x4 x5 c10
                  go_wp2_with fail
                  refine (rwords_ok [x.id, x.level, x.x0, x.y0, x.x1, x.y1] g3 _ HL.out (by simp)).mono ?_
                  rintro e w4 ⟨rfl, m4, hw4⟩
                  have HPS := Lib.hid (show AB w w4 ab (anC a (.slice (some ⟨b, off, none⟩) a.seen.length sC) (.slice eA a.events.length eC)) by rw [hw4]; exact HPS.out.drewN m4)
                  rw [← HZ.out]
                  clear hw4 HL
                  go_wp2_with fail
                  go_roundw
                  case rel => exact ⟨k + 1, by omega, by go_num, by rw [HST.out, HY1.out, HY.out]; unfold snT; rw [← HZ.out]; simp, HPS.out⟩
                  case measure => simp [intOf]; omega
                · obtain rfl : k = a.seen.length := by omega
                  rw [List.take_length] at hfl ⊢
                  have HPS := Lib.hid hps
                  obtain ⟨s5, hs5⟩ : ∃ y, y = s4 ++ a.seen.flatMap snT := ⟨_, rfl⟩
                  have l5 : s5.length ≤ 2000000 := by rw [hs5, List.length_append]; omega
                  have H5 := Lib.hid hs5
                  rw [← hs5]
                  have c10 := (show World.cell? _ ⟨ab, 10, none⟩ = some (.slice sA a.seen.length sC) from HPS.out.blk.is 10 rfl)
                  have c11 := (show World.cell? _ ⟨ab, 11, none⟩ = some (.slice eA a.events.length eC) from HPS.out.blk.is 11 rfl)
                  clear hps hs5 hfl hfk
                  go_wp2_with fail
                  go_loopw [3, 5] (fun v iv wr => ∃ k, k ≤ a.events.length ∧ iv = .int .i64 (k : Nat) ∧ RT w ab (anC a (.slice sA a.seen.length sC) (.slice eA a.events.length eC)) (s5 ++ (a.events.take k).flatMap evT) v wr) (fun _ iv _ => (a.events.length - intOf iv).toNat)
                  case atStart => exact ⟨0, Nat.zero_le _, rfl, by simp, HPS.out⟩
                  case round =>
                    obtain ⟨k, hk, rfl, rfl, hps⟩ := hrel
                    have hfl := flat_le evT_le (a.events.take k)
                    have hfk := List.length_take_le k a.events
                    by_cases hlt : k < a.events.length
                    · obtain ⟨b, off, rfl, hbb, hlay⟩ := HE3.out (by omega)
                      have hlay2 : Lay _ b off (a.events.flatMap evC) := hlay.of_heap (hps.bel.block b hbb)
                      have hel := hlay2.elem evC_len k hlt
                      have hst : (a.events.take (k + 1)).flatMap evT = (a.events.take k).flatMap evT ++ evT a.events[k] := by rw [List.take_succ_eq_append_getElem hlt, List.flatMap_append]; simp
                      obtain ⟨x, hx⟩ : ∃ x, x = a.events[k] := ⟨_, rfl⟩
                      rw [← hx] at hel hst
                      have x0 := hel 0 _ rfl
                      have x1 := hel 1 _ rfl
                      have x2 := hel 2 _ rfl
                      have x3 := hel 3 _ rfl
                      rw [Nat.add_zero] at x0
                      have hki : (k : Int) < (a.events.length : Int) := by omega
                      have HPS := Lib.hid hps
                      have HST := Lib.hid hst
                      have c11 := (show World.cell? _ ⟨ab, 11, none⟩ = some (.slice (some ⟨b, off, none⟩) a.events.length eC) from HPS.out.blk.is 11 rfl)
                      obtain ⟨y, hy⟩ : ∃ y, y = s5 ++ (a.events.take k).flatMap evT := ⟨_, rfl⟩
                      have hyl : y.length ≤ 3000000 := by rw [hy, List.length_append]; omega
                      rw [← hy]
                      have HY := Lib.hid hy
                      have hl := wordsT_len [x.user, x.op, x.status, x.tick]
                      obtain ⟨z, hz⟩ : ∃ z, z = wordsT [x.user, x.op, x.status, x.tick] := ⟨_, rfl⟩
                      rw [← hz] at hl
                      have HZ := Lib.hid hz
                      obtain ⟨y1, hy1⟩ : ∃ u, u = y ++ [32, 101, 118, 101, 110, 116] := ⟨_, rfl⟩
                      have f1 := fun w => str_add y [32, 101, 118, 101, 110, 116] (by simp; omega) w
                      rw [← hy1] at f1
                      have f2 := fun w => str_add y1 z (by rw [hy1]; simp at hl ⊢; omega) w
                      have HY1 := Lib.hid hy1
                      clear hlay hlay2 hel hst hx hps hy hyl hl hz hy1 hfl hfk c10
                      go_wp2_with fail
                      refine (revent_ok _ _ _ _ _).mono ?_
                      rintro e w3 ⟨g3, rfl, hlay, hb⟩
                      have HPS := Lib.hid (HPS.out.below hb)
                      have HL := Lib.hid hlay
                      clear hlay hb x0 x1 x2 x3 c11
                      go_wp2_with fail
                      refine (rwords_ok [x.user, x.op, x.status, x.tick] g3 _ HL.out (by simp)).mono ?_
                      rintro e w4 ⟨rfl, m4, hw4⟩
                      have HPS := Lib.hid (show AB w w4 ab (anC a (.slice sA a.seen.length sC) (.slice (some ⟨b, off, none⟩) a.events.length eC)) by rw [hw4]; exact HPS.out.drewN m4)
                      rw [← HZ.out]
                      clear hw4 HL
                      go_wp2_with fail
                      go_roundw
                      case rel => exact ⟨k + 1, by omega, by go_num, by rw [HST.out, HY1.out, HY.out]; unfold evT; rw [← HZ.out]; simp, HPS.out⟩
                      case measure => simp [intOf]; omega
                    · obtain rfl : k = a.events.length := by omega
                      rw [List.take_length]
                      have HPS := Lib.hid hps
                      have HF := Lib.hid (show ransT a = s5 ++ a.events.flatMap evT by unfold ransT; rw [H5.out, H4.out, H3.out, H2.out, HW0.out])
                      obtain ⟨y, hy⟩ : ∃ y, y = s5 ++ a.events.flatMap evT := ⟨_, rfl⟩
                      rw [← hy] at HF ⊢
                      have c11 := (show World.cell? _ ⟨ab, 11, none⟩ = some (.slice eA a.events.length eC) from HPS.out.blk.is 11 rfl)
                      clear hps hy hfl hfk c10
                      go_wp2_with fail
                      go_ret
                      exact ⟨by rw [HF.out]; rfl, HPS.out.bel⟩
end Go.Proofs.YtbfbcbhnknhgnaaDoor
