/-
  The writer's parts of an answer. Conditions: as each states.
-/
import Derived.Test.YtbfbcbhnknhgnaaGreatDoorAns
namespace Go.Proofs.YtbfbcbhnknhgnaaGreatDoor
open Go.RowKit

def secW (a : Ans) : List (List UInt8) := if a.secret = 0 then [] else [[115, 101, 99, 114, 101, 116], hexT a.secret]
def recW (a : Ans) : List (List UInt8) := if eq4 a.id a.ax a.ay a.label 0 0 0 0 = true then [] else [[114, 101, 99, 111, 114, 100]] ++ nsW [a.id, a.ax, a.ay, a.label]
def recB (a : Ans) : Bool := if eq4 a.id a.ax a.ay a.label 0 0 0 0 = true then false else nsB [a.id, a.ax, a.ay, a.label]
def boxW (a : Ans) : List (List UInt8) := if eq4 a.x0 a.y0 a.x1 a.y1 0 0 0 0 = true then [] else [[98, 111, 120]] ++ nsW [a.x0, a.y0, a.x1, a.y1]
def boxN (a : Ans) : Bool := if eq4 a.x0 a.y0 a.x1 a.y1 0 0 0 0 = true then false else nsB [a.x0, a.y0, a.x1, a.y1]
def snW (s : Sn) : List (List UInt8) := [[115, 101, 101, 110]] ++ nsW [s.id, s.level] ++ nsW [s.x0, s.y0, s.x1, s.y1]
def snB (s : Sn) : Bool := nsB [s.id, s.level] || nsB [s.x0, s.y0, s.x1, s.y1]
def evW (e : Ev) : List (List UInt8) := [[101, 118, 101, 110, 116]] ++ nsW [e.user, e.op, e.status, e.tick]
def evB (e : Ev) : Bool := nsB [e.user, e.op, e.status, e.tick]
def partsW (a : Ans) : List (List UInt8) := secW a ++ recW a ++ boxW a ++ a.seen.flatMap snW ++ a.events.flatMap evW
def partsB (a : Ans) : Bool := recB a || boxN a || a.seen.any snB || a.events.any evB

/-- Words in a slice that has just been built. -/
theorem words_new (w : World) (base g : Nat) (ws : List (List UInt8)) (bad : Bool) (h : Wri w base g ws bad) (ts : List (List UInt8)) (cs : Array Value) (hcs : cs.toList = ts.flatMap stC) (b k : Nat) (hb : b = w.heap.size) (hk : k = ts.length) (h0 : 0 < ts.length) (hl : ws.length + ts.length ≤ 1000000) :
    Calls Tryz.prog 13 #[.pointer (some ⟨g, 0, none⟩), .slice (some ⟨b, 0, none⟩) k k] (w.alloc (.cells cs 9)) (WPut w base g (ws ++ ts) bad) := by
  subst hb
  subst hk
  have hlt := h.lt
  refine (wput_ok _ base g ws bad (h.keep ((Below.refl w.heap.size w).alloc (Nat.le_refl _) _)) (w.heap.size + 1) _ ts ⟨_, _, rfl, Nat.le_refl _, by unfold maxLen; omega, fun _ => ⟨_, 0, rfl, Nat.lt_succ_self _, by rw [← hcs]; exact (Blk.new w 9 cs).lay⟩⟩ h0 hl).mono ?_
  rintro e w' ⟨he, h1, h2, h3⟩
  exact ⟨he, h1, (((Lib.OthersKept.refl 9 (some g) w).alloc _).trans h2), ((Below.refl base w).alloc (by omega) _).trans h3⟩

/-- Where the writer of an answer stands. -/
structure PS (w wx : World) (base g ab : Nat) (cs : Array Value) (ws : List (List UInt8)) (bad : Bool) : Prop where
  wri : Wri wx base g ws bad
  blk : Blk wx ab 70 cs
  bel : Below base w wx
theorem PS.put {w wx wy : World} {base g ab : Nat} {cs : Array Value} {ws ws' : List (List UInt8)} {bad bad' : Bool} (h : PS w wx base g ab cs ws bad) (hg : g < ab) (h1 : Wri wy base g ws' bad') (h2 : Oth wx wy g) (h3 : Below base wx wy) : PS w wy base g ab cs ws' bad' :=
  ⟨h1, h2.blk h.blk (by omega) (by decide), h.bel.trans h3⟩
theorem PS.below {w wx wy : World} {base g ab : Nat} {cs : Array Value} {ws : List (List UInt8)} {bad : Bool} (h : PS w wx base g ab cs ws bad) (hb : Below wx.heap.size wx wy) : PS w wy base g ab cs ws bad :=
  ⟨h.wri.keep hb, h.blk.below hb h.blk.lt, h.bel.trans (hb.mono (by have := h.wri.lt; omega))⟩
def PPut (w : World) (base g : Nat) (ws : List (List UInt8)) (bad : Bool) (e : Ending) (w' : World) : Prop := e = .returned (.tuple #[]) ∧ Wri w' base g ws bad ∧ Below base w w'

set_option maxRecDepth 100000 in
set_option maxHeartbeats 4000000 in
theorem parts_ok (w : World) (base g : Nat) (ws : List (List UInt8)) (bad : Bool) (h : Wri w base g ws bad) (a : Ans) (sv ev : Value) (hs : Sl snC w base sv a.seen) (he : Sl evC w base ev a.events) (hn : a.seen.length ≤ 10000) (hm : a.events.length ≤ 10000) (hsec : a.secret < 18446744073709551616) (hws : ws.length ≤ 10) :
    Calls Tryz.prog 53 #[.pointer (some ⟨g, 0, none⟩), .agg (anC a sv ev)] w (PPut w base g (ws ++ partsW a) (bad || partsB a)) := by
  have hlt := h.lt
  have hbw : base ≤ w.heap.size := by omega
  have hp0 : PS w (w.alloc (.cells (anC a sv ev) 70)) base g w.heap.size (anC a sv ev) ws bad :=
    ⟨h.keep ((Below.refl w.heap.size w).alloc (Nat.le_refl _) _), Blk.new w _ _, (Below.refl base w).alloc hbw _⟩
  obtain ⟨ab, hab⟩ : ∃ ab, ab = w.heap.size := ⟨_, rfl⟩
  obtain ⟨w0, hst0⟩ : ∃ w0, w.alloc (.cells (anC a sv ev) 70) = w0 := ⟨_, rfl⟩
  rw [hst0, ← hab] at hp0
  have hgab : g < ab := by omega
  have HP := Lib.hid hp0
  have HSN := Lib.hid hs
  have HEV := Lib.hid he
  have HSEC := Lib.hid hsec
  have hab' := hab.symm
  have c1 := (show World.cell? _ ⟨ab, 1, none⟩ = some (.int .u64 (a.secret : Nat)) from HP.out.blk.is 1 rfl)
  clear h hp0 hs he hab hlt hbw
  go_enter Tryz.func53, Tryz.ntmps53
  go_upto_if 10 with fail
  go_cut [] (fun wx => PS w wx base g ab (anC a sv ev) (ws ++ secW a) bad)
  case first =>
    by_cases h0 : a.secret = 0
    · have ht : ((a.secret : Int) != 0) = false := by simp [h0]
      have hsw : secW a = [] := by unfold secW; rw [if_pos h0]
      have HX := Lib.hid hsw
      clear h0 hsw
      go_wp2_with fail
      go_meet
      rw [HX.out, List.append_nil]
      exact HP.out
    · have ht : ((a.secret : Int) != 0) = true := by simp; omega
      have hsw : secW a = [[115, 101, 99, 114, 101, 116], hexT a.secret] := by unfold secW; rw [if_neg h0]
      have HX := Lib.hid hsw
      clear h0 hsw
      go_wp2_with fail
      refine (hex_ok a.secret w0 HSEC.out).mono ?_
      rintro e w1 ⟨rfl, h1⟩
      have HP := Lib.hid (HP.out.below h1)
      clear h1 c1 hst0
      go_wp2_with fail
      refine (words_new _ base g _ _ HP.out.wri [[115, 101, 99, 114, 101, 116], hexT a.secret] _ rfl _ _ rfl rfl (by simp) (by simp; omega)).mono ?_
      rintro e w2 ⟨rfl, h1, h2, h3⟩
      have HP := Lib.hid (HP.out.put hgab h1 h2 h3)
      clear h1 h2 h3
      go_wp2_with fail
      go_meet
      rw [HX.out]
      exact HP.out
  case rest =>
    have HP := Lib.hid hcut
    clear hcut c1 hst0
    obtain ⟨ws1, hws1⟩ : ∃ ws1, ws1 = ws ++ secW a := ⟨_, rfl⟩
    have hl1 : ws1.length ≤ 12 := by rw [hws1]; unfold secW; split <;> simp <;> omega
    rw [← hws1] at HP
    have HW1 := Lib.hid hws1
    clear hws1
    have c2 := (show World.cell? _ ⟨ab, 2, none⟩ = some (.int .i64 a.id) from HP.out.blk.is 2 rfl)
    have c3 := (show World.cell? _ ⟨ab, 3, none⟩ = some (.int .i64 a.ax) from HP.out.blk.is 3 rfl)
    have c4 := (show World.cell? _ ⟨ab, 4, none⟩ = some (.int .i64 a.ay) from HP.out.blk.is 4 rfl)
    have c5 := (show World.cell? _ ⟨ab, 5, none⟩ = some (.int .i64 a.label) from HP.out.blk.is 5 rfl)
    go_upto_if 20 with fail
    go_cut [] (fun wx => PS w wx base g ab (anC a sv ev) (ws1 ++ recW a) (bad || recB a))
    case first =>
      cases h0 : eq4 a.id a.ax a.ay a.label 0 0 0 0
      · have hsw : recW a = [[114, 101, 99, 111, 114, 100]] ++ nsW [a.id, a.ax, a.ay, a.label] := by unfold recW; rw [if_neg (by rw [h0]; decide)]
        have hsb : recB a = nsB [a.id, a.ax, a.ay, a.label] := by unfold recB; rw [if_neg (by rw [h0]; decide)]
        have HX := Lib.hid hsw
        have HY := Lib.hid hsb
        clear hsw hsb
        go_wp2_with fail
        refine (words_new _ base g _ _ HP.out.wri [[114, 101, 99, 111, 114, 100]] _ rfl _ _ rfl rfl (by simp) (by simp; omega)).mono ?_
        rintro e w2 ⟨rfl, h1, h2, h3⟩
        have HP := Lib.hid (HP.out.put hgab h1 h2 h3)
        clear h1 h2 h3 c2 c3 c4 c5
        have c2 := (show World.cell? _ ⟨ab, 2, none⟩ = some (.int .i64 a.id) from HP.out.blk.is 2 rfl)
        have c3 := (show World.cell? _ ⟨ab, 3, none⟩ = some (.int .i64 a.ax) from HP.out.blk.is 3 rfl)
        have c4 := (show World.cell? _ ⟨ab, 4, none⟩ = some (.int .i64 a.ay) from HP.out.blk.is 4 rfl)
        have c5 := (show World.cell? _ ⟨ab, 5, none⟩ = some (.int .i64 a.label) from HP.out.blk.is 5 rfl)
        go_wp2_with fail
        refine (numbers_new _ base g _ _ HP.out.wri [a.id, a.ax, a.ay, a.label] _ rfl _ _ rfl rfl (by simp; omega)).mono ?_
        rintro e w3 ⟨rfl, h1, h2, h3⟩
        have HP := Lib.hid (HP.out.put hgab h1 h2 h3)
        clear h1 h2 h3 c2 c3 c4 c5
        go_wp2_with fail
        go_meet
        rw [HX.out, HY.out, ← List.append_assoc]
        exact HP.out
      · have hsw : recW a = [] := by unfold recW; rw [if_pos h0]
        have hsb : recB a = false := by unfold recB; rw [if_pos h0]
        have HX := Lib.hid hsw
        have HY := Lib.hid hsb
        clear hsw hsb
        go_wp2_with fail
        go_meet
        rw [HX.out, HY.out, List.append_nil, Bool.or_false]
        exact HP.out
    case rest =>
      have HP := Lib.hid hcut
      clear hcut c2 c3 c4 c5
      obtain ⟨ws2, hws2⟩ : ∃ ws2, ws2 = ws1 ++ recW a := ⟨_, rfl⟩
      have hl2 : ws2.length ≤ 17 := by rw [hws2]; unfold recW; split <;> simp [nsW] <;> omega
      obtain ⟨b2, hb2⟩ : ∃ b2, b2 = (bad || recB a) := ⟨_, rfl⟩
      rw [← hws2, ← hb2] at HP
      have HW2 := Lib.hid hws2
      have HB2 := Lib.hid hb2
      clear hws2 hb2
      have c6 := (show World.cell? _ ⟨ab, 6, none⟩ = some (.int .i64 a.x0) from HP.out.blk.is 6 rfl)
      have c7 := (show World.cell? _ ⟨ab, 7, none⟩ = some (.int .i64 a.y0) from HP.out.blk.is 7 rfl)
      have c8 := (show World.cell? _ ⟨ab, 8, none⟩ = some (.int .i64 a.x1) from HP.out.blk.is 8 rfl)
      have c9 := (show World.cell? _ ⟨ab, 9, none⟩ = some (.int .i64 a.y1) from HP.out.blk.is 9 rfl)
      go_upto_if 44 with fail
      go_cut [] (fun wx => PS w wx base g ab (anC a sv ev) (ws2 ++ boxW a) (b2 || boxN a))
      case first =>
        cases h0 : eq4 a.x0 a.y0 a.x1 a.y1 0 0 0 0
        · have hsw : boxW a = [[98, 111, 120]] ++ nsW [a.x0, a.y0, a.x1, a.y1] := by unfold boxW; rw [if_neg (by rw [h0]; decide)]
          have hsb : boxN a = nsB [a.x0, a.y0, a.x1, a.y1] := by unfold boxN; rw [if_neg (by rw [h0]; decide)]
          have HX := Lib.hid hsw
          have HY := Lib.hid hsb
          clear hsw hsb
          go_wp2_with fail
          refine (words_new _ base g _ _ HP.out.wri [[98, 111, 120]] _ rfl _ _ rfl rfl (by simp) (by simp; omega)).mono ?_
          rintro e w2 ⟨rfl, h1, h2, h3⟩
          have HP := Lib.hid (HP.out.put hgab h1 h2 h3)
          clear h1 h2 h3 c6 c7 c8 c9
          have c6 := (show World.cell? _ ⟨ab, 6, none⟩ = some (.int .i64 a.x0) from HP.out.blk.is 6 rfl)
          have c7 := (show World.cell? _ ⟨ab, 7, none⟩ = some (.int .i64 a.y0) from HP.out.blk.is 7 rfl)
          have c8 := (show World.cell? _ ⟨ab, 8, none⟩ = some (.int .i64 a.x1) from HP.out.blk.is 8 rfl)
          have c9 := (show World.cell? _ ⟨ab, 9, none⟩ = some (.int .i64 a.y1) from HP.out.blk.is 9 rfl)
          go_wp2_with fail
          refine (wrect_ok _ base g _ _ HP.out.wri a.x0 a.y0 a.x1 a.y1 (by simp; omega)).mono ?_
          rintro e w3 ⟨rfl, h1, h2, h3⟩
          have HP := Lib.hid (HP.out.put hgab h1 h2 h3)
          clear h1 h2 h3 c6 c7 c8 c9
          go_wp2_with fail
          go_meet
          rw [HX.out, HY.out, ← List.append_assoc]
          exact HP.out
        · have hsw : boxW a = [] := by unfold boxW; rw [if_pos h0]
          have hsb : boxN a = false := by unfold boxN; rw [if_pos h0]
          have HX := Lib.hid hsw
          have HY := Lib.hid hsb
          clear hsw hsb
          go_wp2_with fail
          go_meet
          rw [HX.out, HY.out, List.append_nil, Bool.or_false]
          exact HP.out
      case rest =>
        have HP := Lib.hid hcut
        clear hcut c6 c7 c8 c9
        obtain ⟨ws3, hws3⟩ : ∃ ws3, ws3 = ws2 ++ boxW a := ⟨_, rfl⟩
        have hl3 : ws3.length ≤ 22 := by rw [hws3]; unfold boxW; split <;> simp [nsW] <;> omega
        obtain ⟨b3, hb3⟩ : ∃ b3, b3 = (b2 || boxN a) := ⟨_, rfl⟩
        rw [← hws3, ← hb3] at HP
        have HW3 := Lib.hid hws3
        have HB3 := Lib.hid hb3
        clear hws3 hb3
        obtain ⟨sA, sC, hsv, hs1, hs2, hs3⟩ := HSN.out
        subst hsv
        unfold maxLen at hs2
        have HS3 := Lib.hid hs3
        have c10 := (show World.cell? _ ⟨ab, 10, none⟩ = some (.slice sA a.seen.length sC) from HP.out.blk.is 10 rfl)
        clear hs3
        go_wp2_with fail
        go_loopw [55] (fun iv wr => ∃ k, k ≤ a.seen.length ∧ iv = .int .i64 (k : Nat) ∧ PS w wr base g ab (anC a (.slice sA a.seen.length sC) ev) (ws3 ++ (a.seen.take k).flatMap snW) (b3 || (a.seen.take k).any snB)) (fun iv _ => (a.seen.length - intOf iv).toNat)
        case atStart => exact ⟨0, Nat.zero_le _, rfl, by simpa using HP.out⟩
        case round =>
          obtain ⟨k, hk, rfl, hps⟩ := hrel
          by_cases hlt : k < a.seen.length
          · obtain ⟨b, off, rfl, hbb, hlay⟩ := HS3.out (by omega)
            have hlay2 : Lay wr b off (a.seen.flatMap snC) := hlay.of_heap (hps.bel.block b hbb)
            have hel := hlay2.elem snC_len k hlt
            obtain ⟨x, hx⟩ : ∃ x, x = a.seen[k] := ⟨_, rfl⟩
            rw [← hx] at hel
            have x0 := hel 0 _ rfl
            have x1 := hel 1 _ rfl
            have x2 := hel 2 _ rfl
            have x3 := hel 3 _ rfl
            have x4 := hel 4 _ rfl
            have x5 := hel 5 _ rfl
            rw [Nat.add_zero] at x0
            have hst : a.seen.take (k + 1) = a.seen.take k ++ [x] := by rw [List.take_succ_eq_append_getElem hlt, ← hx]
            have hw1 : (a.seen.take (k + 1)).flatMap snW = (a.seen.take k).flatMap snW ++ snW x := by rw [hst, List.flatMap_append]; simp
            have hb1 : (a.seen.take (k + 1)).any snB = ((a.seen.take k).any snB || snB x) := by rw [hst, List.any_append]; simp
            have hfl : ((a.seen.take k).flatMap snW).length = 7 * k := by
              rw [List.length_flatMap]
              have : (List.map (fun z => (snW z).length) (a.seen.take k)) = List.replicate k 7 := by
                rw [List.eq_replicate_iff]
                refine ⟨by simp; omega, fun z hz => ?_⟩
                obtain ⟨y, _, rfl⟩ := List.mem_map.1 hz
                rfl
              rw [this, List.sum_replicate_nat, Nat.mul_comm]
            have hki : (k : Int) < (a.seen.length : Int) := by omega
            have HPS := Lib.hid hps
            have HWX := Lib.hid hw1
            have HBX := Lib.hid hb1
            have HFL := Lib.hid hfl
            have HLT := Lib.hid hlt
            clear hlay hlay2 hel hx hst hw1 hb1 hfl hps c10
            have hps1 := HPS.out.below ((Below.refl wr.heap.size wr).alloc (Nat.le_refl _) (.cells #[.int .i64 x.id, .int .i64 x.level, .int .i64 x.x0, .int .i64 x.y0, .int .i64 x.x1, .int .i64 x.y1] 64))
            have hv1 := Blk.new wr 64 #[.int .i64 x.id, .int .i64 x.level, .int .i64 x.x0, .int .i64 x.y0, .int .i64 x.x1, .int .i64 x.y1]
            obtain ⟨vb, hvb⟩ : ∃ vb, vb = wr.heap.size := ⟨_, rfl⟩
            have hgv : vb ≠ g := by have := HPS.out.wri.lt; omega
            obtain ⟨w1, hst1⟩ : ∃ w1, wr.alloc (.cells #[.int .i64 x.id, .int .i64 x.level, .int .i64 x.x0, .int .i64 x.y0, .int .i64 x.x1, .int .i64 x.y1] 64) = w1 := ⟨_, rfl⟩
            rw [hst1] at hps1 hv1
            rw [← hvb] at hv1
            have hvb' := hvb.symm
            have hz1 : w1.heap.size = vb + 1 := by rw [← hst1, hvb]; simp
            have HPS := Lib.hid hps1
            have HV := Lib.hid hv1
            clear hps1 hv1 hvb
            go_wp2_with fail
            refine (words_new w1 base g _ _ HPS.out.wri [[115, 101, 101, 110]] _ rfl _ _ hz1.symm rfl (by simp) (by have := HFL.out; have := HLT.out; simp only [List.length_append, List.length_cons, List.length_nil]; omega)).mono ?_
            rintro e w2 ⟨rfl, h1, h2, h3⟩
            have HPS := Lib.hid (HPS.out.put hgab h1 h2 h3)
            have HV := Lib.hid (h2.blk HV.out hgv (by decide))
            clear h1 h2 h3 x0 x1 x2 x3 x4 x5 hst1 hvb' hz1
            have x0 := (show World.cell? _ ⟨vb, 0, none⟩ = some (.int .i64 x.id) from HV.out.is 0 rfl)
            have x1 := (show World.cell? _ ⟨vb, 1, none⟩ = some (.int .i64 x.level) from HV.out.is 1 rfl)
            go_wp2_with fail
            refine (numbers_new _ base g _ _ HPS.out.wri [x.id, x.level] _ rfl _ _ rfl rfl (by have := HFL.out; have := HLT.out; simp only [List.length_append, List.length_cons, List.length_nil]; omega)).mono ?_
            rintro e w3 ⟨rfl, h1, h2, h3⟩
            have HPS := Lib.hid (HPS.out.put hgab h1 h2 h3)
            have HV := Lib.hid (h2.blk HV.out hgv (by decide))
            clear h1 h2 h3 x0 x1
            have x2 := (show World.cell? _ ⟨vb, 2, none⟩ = some (.int .i64 x.x0) from HV.out.is 2 rfl)
            have x3 := (show World.cell? _ ⟨vb, 3, none⟩ = some (.int .i64 x.y0) from HV.out.is 3 rfl)
            have x4 := (show World.cell? _ ⟨vb, 4, none⟩ = some (.int .i64 x.x1) from HV.out.is 4 rfl)
            have x5 := (show World.cell? _ ⟨vb, 5, none⟩ = some (.int .i64 x.y1) from HV.out.is 5 rfl)
            go_wp2_with fail
            refine (wrect_ok _ base g _ _ HPS.out.wri x.x0 x.y0 x.x1 x.y1 (by have := HFL.out; have := HLT.out; simp only [List.length_append, List.length_cons, List.length_nil, nsW, List.length_map]; omega)).mono ?_
            rintro e w4 ⟨rfl, h1, h2, h3⟩
            have HPS := Lib.hid (HPS.out.put hgab h1 h2 h3)
            clear h1 h2 h3 x2 x3 x4 x5
            go_wp2
            go_roundw
            case rel =>
              refine ⟨k + 1, by omega, by go_num, ?_⟩
              have h := HPS.out
              rw [HWX.out, HBX.out]
              have e1 : ws3 ++ ((a.seen.take k).flatMap snW ++ snW x) = ws3 ++ (a.seen.take k).flatMap snW ++ [[115, 101, 101, 110]] ++ nsW [x.id, x.level] ++ nsW [x.x0, x.y0, x.x1, x.y1] := by unfold snW; simp only [List.append_assoc]
              have e2 : (b3 || ((a.seen.take k).any snB || snB x)) = (b3 || (a.seen.take k).any snB || nsB [x.id, x.level] || nsB [x.x0, x.y0, x.x1, x.y1]) := by unfold snB; simp only [Bool.or_assoc]
              rw [e1, e2]
              exact h
            case measure => simp [intOf]; omega
          · obtain rfl : k = a.seen.length := by omega
            rw [List.take_length] at hps
            have hfl : (a.seen.flatMap snW).length = 7 * a.seen.length := by
              rw [List.length_flatMap]
              have : (List.map (fun z => (snW z).length) a.seen) = List.replicate a.seen.length 7 := by
                rw [List.eq_replicate_iff]
                refine ⟨by simp, fun z hz => ?_⟩
                obtain ⟨y, _, rfl⟩ := List.mem_map.1 hz
                rfl
              rw [this, List.sum_replicate_nat, Nat.mul_comm]
            obtain ⟨ws4, hws4⟩ : ∃ ws4, ws4 = ws3 ++ a.seen.flatMap snW := ⟨_, rfl⟩
            have hl4 : ws4.length ≤ 70022 := by rw [hws4, List.length_append, hfl]; omega
            obtain ⟨b4, hb4⟩ : ∃ b4, b4 = (b3 || a.seen.any snB) := ⟨_, rfl⟩
            rw [← hws4, ← hb4] at hps
            have HW4 := Lib.hid hws4
            have HB4 := Lib.hid hb4
            have HP := Lib.hid hps
            clear hws4 hb4 hps hfl c10
            obtain ⟨eA, eC, hev, hs1', hs2', hs3'⟩ := HEV.out
            subst hev
            unfold maxLen at hs2'
            have HS4 := Lib.hid hs3'
            have c11 := (show World.cell? _ ⟨ab, 11, none⟩ = some (.slice eA a.events.length eC) from HP.out.blk.is 11 rfl)
            clear hs3'
            go_wp2_with fail
            go_loopw [77] (fun iv wr => ∃ k, k ≤ a.events.length ∧ iv = .int .i64 (k : Nat) ∧ PS w wr base g ab (anC a (.slice sA a.seen.length sC) (.slice eA a.events.length eC)) (ws4 ++ (a.events.take k).flatMap evW) (b4 || (a.events.take k).any evB)) (fun iv _ => (a.events.length - intOf iv).toNat)
            case atStart => exact ⟨0, Nat.zero_le _, rfl, by simpa using HP.out⟩
            case round =>
              obtain ⟨k, hk, rfl, hps⟩ := hrel
              by_cases hlt : k < a.events.length
              · obtain ⟨b, off, rfl, hbb, hlay⟩ := HS4.out (by omega)
                have hlay2 : Lay _ b off (a.events.flatMap evC) := hlay.of_heap (hps.bel.block b hbb)
                have hel := hlay2.elem evC_len k hlt
                obtain ⟨x, hx⟩ : ∃ x, x = a.events[k] := ⟨_, rfl⟩
                rw [← hx] at hel
                have x0 := hel 0 _ rfl
                have x1 := hel 1 _ rfl
                have x2 := hel 2 _ rfl
                have x3 := hel 3 _ rfl
                rw [Nat.add_zero] at x0
                have hst : a.events.take (k + 1) = a.events.take k ++ [x] := by rw [List.take_succ_eq_append_getElem hlt, ← hx]
                have hw1 : (a.events.take (k + 1)).flatMap evW = (a.events.take k).flatMap evW ++ evW x := by rw [hst, List.flatMap_append]; simp
                have hb1 : (a.events.take (k + 1)).any evB = ((a.events.take k).any evB || evB x) := by rw [hst, List.any_append]; simp
                have hfl : ((a.events.take k).flatMap evW).length = 5 * k := by
                  rw [List.length_flatMap]
                  have : (List.map (fun z => (evW z).length) (a.events.take k)) = List.replicate k 5 := by
                    rw [List.eq_replicate_iff]
                    refine ⟨by simp; omega, fun z hz => ?_⟩
                    obtain ⟨y, _, rfl⟩ := List.mem_map.1 hz
                    rfl
                  rw [this, List.sum_replicate_nat, Nat.mul_comm]
                have hki : (k : Int) < (a.events.length : Int) := by omega
                have HPS := Lib.hid hps
                have HWX := Lib.hid hw1
                have HBX := Lib.hid hb1
                have HFL := Lib.hid hfl
                have HLT := Lib.hid hlt
                clear hlay hlay2 hel hx hst hw1 hb1 hfl hps c11
                go_wp2_with fail
                have hps1 := HPS.out.below ((Below.refl wr.heap.size wr).alloc (Nat.le_refl _) (.cells #[.int .i64 x.user, .int .i64 x.op, .int .i64 x.status, .int .i64 x.tick] 126))
                have hv1 := Blk.new wr 126 #[.int .i64 x.user, .int .i64 x.op, .int .i64 x.status, .int .i64 x.tick]
                obtain ⟨vb, hvb⟩ : ∃ vb, vb = wr.heap.size := ⟨_, rfl⟩
                have hgv : vb ≠ g := by have := HPS.out.wri.lt; omega
                have hz1 : (wr.alloc (.cells #[.int .i64 x.user, .int .i64 x.op, .int .i64 x.status, .int .i64 x.tick] 126)).heap.size = wr.heap.size + 1 := by simp
                obtain ⟨w1, hst1⟩ : ∃ w1, wr.alloc (.cells #[.int .i64 x.user, .int .i64 x.op, .int .i64 x.status, .int .i64 x.tick] 126) = w1 := ⟨_, rfl⟩
                rw [hst1] at hps1 hv1 hz1
                rw [← hvb] at hv1 hz1
                rw [hst1, ← hvb, ← hz1]
                have HPS := Lib.hid hps1
                have HV := Lib.hid hv1
                clear hps1 hv1 hvb
                refine (words_new w1 base g _ _ HPS.out.wri [[101, 118, 101, 110, 116]] _ rfl _ _ rfl rfl (by simp) (by have := HFL.out; have := HLT.out; simp only [List.length_append, List.length_cons, List.length_nil]; omega)).mono ?_
                rintro e w2 ⟨rfl, h1, h2, h3⟩
                have HPS := Lib.hid (HPS.out.put hgab h1 h2 h3)
                have HV := Lib.hid (h2.blk HV.out hgv (by decide))
                clear h1 h2 h3 x0 x1 x2 x3 hst1 hz1
                have x0 := (show World.cell? _ ⟨vb, 0, none⟩ = some (.int .i64 x.user) from HV.out.is 0 rfl)
                have x1 := (show World.cell? _ ⟨vb, 1, none⟩ = some (.int .i64 x.op) from HV.out.is 1 rfl)
                have x2 := (show World.cell? _ ⟨vb, 2, none⟩ = some (.int .i64 x.status) from HV.out.is 2 rfl)
                have x3 := (show World.cell? _ ⟨vb, 3, none⟩ = some (.int .i64 x.tick) from HV.out.is 3 rfl)
                go_wp2_with fail
                refine (numbers_new _ base g _ _ HPS.out.wri [x.user, x.op, x.status, x.tick] _ rfl _ _ rfl rfl (by have := HFL.out; have := HLT.out; simp only [List.length_append, List.length_cons, List.length_nil]; omega)).mono ?_
                rintro e w3 ⟨rfl, h1, h2, h3⟩
                have HPS := Lib.hid (HPS.out.put hgab h1 h2 h3)
                clear h1 h2 h3 x0 x1 x2 x3
                go_wp2
                go_roundw
                case rel =>
                  refine ⟨k + 1, by omega, by go_num, ?_⟩
                  have h := HPS.out
                  rw [HWX.out, HBX.out]
                  have e1 : ws4 ++ ((a.events.take k).flatMap evW ++ evW x) = ws4 ++ (a.events.take k).flatMap evW ++ [[101, 118, 101, 110, 116]] ++ nsW [x.user, x.op, x.status, x.tick] := by unfold evW; simp only [List.append_assoc]
                  have e2 : (b4 || ((a.events.take k).any evB || evB x)) = (b4 || (a.events.take k).any evB || nsB [x.user, x.op, x.status, x.tick]) := by unfold evB; simp only [Bool.or_assoc]
                  rw [e1, e2]
                  exact h
                case measure => simp [intOf]; omega
              · obtain rfl : k = a.events.length := by omega
                rw [List.take_length] at hps
                go_wp2
                refine bodyPost_ret (results_none rfl _ _ _) rfl ?_
                have e1 : ws ++ partsW a = ws4 ++ a.events.flatMap evW := by
                  rw [HW4.out, HW3.out, HW2.out, HW1.out]
                  unfold partsW
                  simp only [List.append_assoc]
                have e2 : (bad || partsB a) = (b4 || a.events.any evB) := by
                  rw [HB4.out, HB3.out, HB2.out]
                  unfold partsB
                  simp only [Bool.or_assoc]
                rw [e1, e2]
                exact ⟨rfl, hps.wri, hps.bel⟩
end Go.Proofs.YtbfbcbhnknhgnaaGreatDoor
