/-
  A text's word: ask.quoted, ask.unquoted. Conditions: as each states.
-/
import Derived.Test.YtbfbcbhnknhgnaaDoorHex
import Derived.Test.YtbfbcbhnknhgnaaDoorShelf
namespace Go.Proofs.YtbfbcbhnknhgnaaDoor
open Go.RowKit

theorem plain_ok (c : UInt8) (w : World) : Calls Tryd.prog 60 #[.int .u8 (c.toNat : Int)] w fun e w' => e = .returned (.bool (plainB c)) ∧ w' = w := by
  have e : ∀ x : Nat, x = c.toNat → plainB c = (decide ((33 : Int) ≤ (x : Int)) && (decide ((x : Int) ≤ 126) && (((x : Int) != 92) && ((x : Int) != 45)))) := by
    rintro x rfl
    unfold plainB
    rw [Bool.eq_iff_iff]
    simp
    omega
  obtain ⟨x, hx⟩ : ∃ x, x = c.toNat := ⟨_, rfl⟩
  rw [e x hx, ← hx]
  clear e hx
  by_cases h1 : (33 : Int) ≤ (x : Int)
  · by_cases h2 : (x : Int) ≤ 126
    · by_cases h3 : x = 92
      · subst h3
        go_enter Tryd.func60, Tryd.ntmps60
        go_wp2
        go_ret
        exact ⟨rfl, rfl⟩
      · have h3' : ((x : Int) != 92) = true := by simp; omega
        clear h3
        go_enter Tryd.func60, Tryd.ntmps60
        go_wp2
        go_ret
        exact ⟨by simp [h1, h2, h3'], rfl⟩
    · go_enter Tryd.func60, Tryd.ntmps60
      go_wp2
      go_ret
      exact ⟨by simp; omega, rfl⟩
  · go_enter Tryd.func60, Tryd.ntmps60
    go_wp2
    go_ret
    exact ⟨by simp; omega, rfl⟩

theorem ba_add (l m : List UInt8) : (ByteArray.mk l.toArray) ++ (ByteArray.mk m.toArray) = ⟨(l ++ m).toArray⟩ := by
  apply ByteArray.ext
  rw [ByteArray.data_append]
  simp
theorem ba_cut (l : List UInt8) (a b : Nat) : (ByteArray.mk l.toArray).extract a b = ⟨((l.take b).drop a).toArray⟩ := by
  have h := Lib.extract_data (ByteArray.mk l.toArray) a b
  apply ByteArray.ext
  apply Array.ext'
  rw [h]
  show (l.drop a).take (b - a) = ((l.take b).drop a).toArray.toList
  rw [List.drop_take]
theorem str_cut (l : List UInt8) (a b : Nat) : Value.string ((ByteArray.mk l.toArray).extract a b) = strV ((l.take b).drop a) := by
  rw [ba_cut]

theorem askhex_ok (c : UInt8) (w : World) : Calls Tryd.prog 63 #[.int .u8 (c.toNat : Int)] w (SPost w [hd (c.toNat / 16), hd (c.toNat % 16)]) := by
  have hc : c.toNat < 256 := c.toNat_lt
  obtain ⟨x, hx⟩ : ∃ x, x = c.toNat := ⟨_, rfl⟩
  rw [← hx] at hc ⊢
  clear hx
  go_enter Tryd.func63, Tryd.ntmps63
  go_wp2_with fail
  refine (hex_ok x w (by omega)).mono ?_
  rintro e w1 ⟨rfl, hw1⟩
  have hl : (hexT x).length = 16 := hexF_len 16 x
  have hb := hexT_byte x hc
  go_wp2
  rw [str_cut, List.take_of_length_le (by omega), hb]
  go_ret
  exact ⟨rfl, hw1⟩

set_option maxRecDepth 100000 in
set_option maxHeartbeats 1000000 in
theorem quoted_ok (l : List UInt8) (w : World) (hl : l.length ≤ 35184372088832) : Calls Tryd.prog 47 #[strV l] w (SPost w (quo l)) := by
  by_cases h0 : l = []
  · subst h0
    go_enter Tryd.func47, Tryd.ntmps47
    go_wp2
    go_ret
    exact ⟨rfl, Below.refl _ _⟩
  · have he : l.isEmpty = false := by simpa using h0
    have hq : quo l = l.flatMap qb := by unfold quo; rw [if_neg h0]
    have HQ := Lib.hid hq
    clear hq h0
    go_enter Tryd.func47, Tryd.ntmps47
    go_wp2
    go_loopw [9] (fun iv wr => ∃ k, k ≤ l.length ∧ iv = .int .i64 (k : Nat) ∧ Bld wr w.heap.size ((l.take k).flatMap qb) ∧ Below w.heap.size w wr) (fun iv _ => (l.length - intOf iv).toNat)
    case atStart => exact ⟨0, Nat.zero_le _, rfl, Bld.new w, (Below.refl w.heap.size w).alloc (Nat.le_refl _) _⟩
    case round =>
      obtain ⟨k, hk, rfl, hbld, hbel⟩ := hrel
      have hfl : ((l.take k).flatMap qb).length ≤ 3 * l.length := by
        have e : ∀ m : List UInt8, (m.flatMap qb).length ≤ 3 * m.length := fun m => by
          induction m with
          | nil => simp
          | cons a m ih =>
            have := (qb_len a).2
            simp only [List.flatMap_cons, List.length_append, List.length_cons]
            omega
        have := e (l.take k)
        have := List.length_take_le k l
        omega
      by_cases hlt : k < l.length
      · obtain ⟨c, hc⟩ : ∃ c, c = l[k] := ⟨_, rfl⟩
        have hyk : ∀ w, (Instr.index 9 (strV l) (.int .i64 (k : Int))).run Tryd.prog w = .ok (.int .u8 (c.toNat : Int)) w := fun w => by rw [hc]; exact str_ix hlt w
        have hst : (l.take (k + 1)).flatMap qb = (l.take k).flatMap qb ++ qb c := by rw [List.take_succ_eq_append_getElem hlt, List.flatMap_append, ← hc]; simp
        have HS := Lib.hid hst
        have HB := Lib.hid hbld
        have HW := Lib.hid hbel
        have HC := Lib.hid hc
        have hlti : (k : Int) < (l.length : Int) := by omega
        clear hc hst hbld hbel
        go_wp2_with fail
        refine (plain_ok c wr).mono ?_
        rintro e w' ⟨rfl, hw'⟩
        rw [hw']
        clear hw' w'
        cases hp : plainB c
        · have hqb : qb c = [92, hd (c.toNat / 16), hd (c.toNat % 16)] := by unfold qb; rw [if_neg (by simp [hp])]
          have HQB := Lib.hid hqb
          clear hqb
          go_wp2_with fail
          refine (wbyte_ok wr _ _ 92 HB.out (by omega)).mono ?_
          rintro e w1 ⟨rfl, h1, h2⟩
          have HB1 := Lib.hid h1
          have HW1 := Lib.hid (HW.out.trans h2)
          clear h1 h2
          go_wp2_with fail
          refine (askhex_ok c w1).mono ?_
          rintro e w2 ⟨rfl, h2⟩
          have HB2 := Lib.hid (HB1.out.below h2)
          have HW2 := Lib.hid (HW1.out.trans (h2.mono (Nat.le_of_lt HB1.out.lt)))
          clear h2
          go_wp2_with fail
          refine (wstr_ok w2 _ _ [hd (c.toNat / 16), hd (c.toNat % 16)] HB2.out (by simp only [List.length_append, List.length_cons, List.length_nil]; omega)).mono ?_
          rintro e w3 ⟨rfl, h1, h2⟩
          have HB3 := Lib.hid h1
          have HW3 := Lib.hid (HW2.out.trans h2)
          clear h1 h2
          go_wp2
          go_roundw
          case rel => exact ⟨k + 1, by omega, by go_num, by rw [HS.out, HQB.out]; have := HB3.out; rwa [List.append_assoc] at this, HW3.out⟩
          case measure => simp [intOf]; omega
        · have hqb : qb c = [c] := by unfold qb; rw [if_pos hp]
          have HQB := Lib.hid hqb
          clear hqb
          go_wp2_with fail
          refine (wbyte_ok wr _ _ c HB.out (by omega)).mono ?_
          rintro e w1 ⟨rfl, h1, h2⟩
          have HB1 := Lib.hid h1
          have HW1 := Lib.hid (HW.out.trans h2)
          clear h1 h2
          go_wp2
          go_roundw
          case rel => exact ⟨k + 1, by omega, by go_num, by rw [HS.out, HQB.out]; exact HB1.out, HW1.out⟩
          case measure => simp [intOf]; omega
      · obtain rfl : k = l.length := by omega
        rw [List.take_length] at hbld
        have HB := Lib.hid hbld
        have HW := Lib.hid hbel
        clear hbld hbel
        go_wp2_with fail
        refine (bstr_ok wr _ _ HB.out).mono ?_
        rintro e w1 ⟨rfl, h1, h2⟩
        have HW1 := Lib.hid (HW.out.trans h2)
        clear h1 h2
        go_wp2
        go_ret
        rw [HQ.out]
        exact ⟨rfl, HW1.out⟩


def QPost (w : World) (r : List UInt8 × Bool) (e : Ending) (w' : World) : Prop := e = .returned (.tuple #[strV r.1, .bool r.2]) ∧ Below w.heap.size w w'

set_option maxRecDepth 100000 in
set_option maxHeartbeats 1000000 in
theorem unquoted_ok (l : List UInt8) (w : World) (hl : l.length ≤ 35184372088832) : Calls Tryd.prog 68 #[strV l] w (QPost w (unq l)) := by
  by_cases h0 : l = [45]
  · subst h0
    go_enter Tryd.func68, Tryd.ntmps68
    go_wp2
    go_ret2
    exact ⟨rfl, Below.refl _ _⟩
  · have hq : unq l = unqR l (unqF l) := by unfold unq; rw [if_neg h0]
    have HQ := Lib.hid hq
    have hb : (l == [45]) = false := by simpa using h0
    clear hq h0
    go_enter Tryd.func68, Tryd.ntmps68
    go_wp2
    go_loopw [5] (fun iv wr => ∃ k acc, k ≤ l.length ∧ iv = .int .i64 (k : Nat) ∧ acc.length ≤ k ∧ unqF l = (unqF (l.drop k)).map (acc ++ ·) ∧ Bld wr w.heap.size acc ∧ Below w.heap.size w wr) (fun iv _ => (l.length - intOf iv).toNat)
    case atStart => exact ⟨0, [], Nat.zero_le _, rfl, Nat.le_refl _, by simp, Bld.new w, (Below.refl w.heap.size w).alloc (Nat.le_refl _) _⟩
    case round =>
      obtain ⟨k, acc, hk, rfl, hacc, huq, hbld, hbel⟩ := hrel
      have HB := Lib.hid hbld
      have HW := Lib.hid hbel
      have HU := Lib.hid huq
      clear hbld hbel huq
      by_cases hlt : k < l.length
      · obtain ⟨x, r, hxr⟩ : ∃ x r, l.drop k = x :: r := ⟨_, _, List.drop_eq_getElem_cons hlt⟩
        have hrl : r.length + k + 1 = l.length := by
          have := congrArg List.length hxr
          simp at this
          omega
        have hx : l[k] = x := by
          have := List.drop_eq_getElem_cons hlt
          rw [hxr] at this
          simp only [List.cons.injEq] at this
          exact this.1.symm
        have hyk : ∀ w, (Instr.index 9 (strV l) (.int .i64 (k : Int))).run Tryd.prog w = .ok (.int .u8 (x.toNat : Int)) w := fun w => by rw [← hx]; exact str_ix hlt w
        have hr : l.drop (k + 1) = r := by
          rw [← List.drop_drop, hxr]
          rfl
        have HX := Lib.hid hxr
        have HR := Lib.hid hr
        have hlti : (k : Int) < (l.length : Int) := by omega
        clear hxr hx hr
        by_cases hc : x.toNat = 92
        · have hc' : ((x.toNat : Int) != 92) = false := by simp; omega
          have HC := Lib.hid hc
          clear hc
          by_cases h3 : r.length < 2
          · have h3' : (l.length : Int) - (k : Int) < 3 := by omega
            have hn : unq l = ([], false) := by rw [HQ.out, HU.out, HX.out, unqF_short x r HC.out h3]; rfl
            have HN := Lib.hid hn
            clear hn
            go_wp2
            go_ret2
            rw [HN.out]
            exact ⟨rfl, HW.out⟩
          · have h3' : (3 : Int) ≤ (l.length : Int) - (k : Int) := by omega
            have h3k : (k : Int) + 3 ≤ (l.length : Int) := by omega
            obtain ⟨a, b, r, rfl⟩ : ∃ a b r', r = a :: b :: r' := by
              match r, h3 with
              | a :: b :: r', _ => exact ⟨a, b, r', rfl⟩
              | [_], h => exact absurd (by simp) h
              | [], h => exact absurd (by simp) h
            have hz : (ByteArray.mk #[48, 48, 48, 48, 48, 48, 48, 48, 48, 48, 48, 48, 48, 48]) ++ (ByteArray.mk l.toArray).extract (k + 1) (k + 3) = ⟨([48, 48, 48, 48, 48, 48, 48, 48, 48, 48, 48, 48, 48, 48] ++ [a, b]).toArray⟩ := by
              rw [ba_cut, List.drop_take, HR.out, show k + 3 - (k + 1) = 2 by omega]
              exact ba_add [48, 48, 48, 48, 48, 48, 48, 48, 48, 48, 48, 48, 48, 48] _
            have hlong : r.length + 2 + k + 1 = l.length := hrl
            have hdr3 : l.drop (k + 2 + 1) = r := by
              have := congrArg (List.drop 2) HR.out
              rw [List.drop_drop] at this
              rw [show k + 2 + 1 = k + 1 + 2 by omega, this]
              rfl
            have HZ := Lib.hid hz
            have HD := Lib.hid hdr3
            clear hz h3 hrl hdr3
            go_wp2_with fail
            rw [HZ.out]
            refine (readhex_ok _ wr (by simp [maxLen])).mono ?_
            rintro e w' ⟨rfl, hw'⟩
            rw [hw', rhex_two]
            clear hw' w'
            by_cases hh : hv a < 16 ∧ hv b < 16
            · rw [if_pos hh]
              obtain ⟨y, hy⟩ : ∃ y : UInt8, y = UInt8.ofNat (16 * hv a + hv b) := ⟨_, rfl⟩
              have hyn : y.toNat = 16 * hv a + hv b := by rw [hy, UInt8.toNat_ofNat']; omega
              have hu : unqF l = (unqF r).map ((acc ++ [y]) ++ ·) := by
                rw [HU.out, HX.out, unqF_slash x a b r HC.out hh, ← hy, Option.map_map]
                congr 1
                funext t
                simp
              rw [← hyn]
              have hy8 : (y.toNat : Int) < 256 := by have := y.toNat_lt; omega
              have HU2 := Lib.hid hu
              clear hu hy hyn HU
              go_wp2_with fail
              refine (wbyte_ok wr _ _ y HB.out (by omega)).mono ?_
              rintro e w1 ⟨rfl, h1, h2⟩
              have HB1 := Lib.hid h1
              have HW1 := Lib.hid (HW.out.trans h2)
              clear h1 h2
              go_wp2
              go_roundw
              case rel => exact ⟨k + 2 + 1, acc ++ [y], by omega, by go_num, by simp; omega, by rw [HD.out]; exact HU2.out, HB1.out, HW1.out⟩
              case measure => simp [intOf]; omega
            · rw [if_neg hh]
              have hn : unq l = ([], false) := by rw [HQ.out, HU.out, HX.out, unqF_none x a b r HC.out hh]; rfl
              have HN := Lib.hid hn
              clear hn hh
              go_wp2
              go_ret2
              rw [HN.out]
              exact ⟨rfl, HW.out⟩
        · have hc' : ((x.toNat : Int) != 92) = true := by simp; omega
          have HC := Lib.hid hc
          clear hc
          go_wp2_with fail
          refine (wbyte_ok wr _ _ x HB.out (by omega)).mono ?_
          rintro e w1 ⟨rfl, h1, h2⟩
          have HB1 := Lib.hid h1
          have HW1 := Lib.hid (HW.out.trans h2)
          clear h1 h2
          go_wp2
          go_roundw
          case rel => exact ⟨k + 1, acc ++ [x], by omega, by go_num, by simp; omega, by rw [HU.out, HX.out, unqF_plain x r HC.out, HR.out, Option.map_map]; congr 1; funext t; simp, HB1.out, HW1.out⟩
          case measure => simp [intOf]; omega
      · obtain rfl : k = l.length := by omega
        have hn : unq l = (acc, quo acc == l) := by
          rw [HQ.out, HU.out, List.drop_length]
          show unqR l (some (acc ++ [])) = _
          rw [List.append_nil]
          rfl
        have HN := Lib.hid hn
        clear hn
        go_wp2_with fail
        refine (bstr_ok wr _ _ HB.out).mono ?_
        rintro e w1 ⟨rfl, h1, h2⟩
        have HB1 := Lib.hid h1
        have HW1 := Lib.hid (HW.out.trans h2)
        clear h1 h2
        go_wp2_with fail
        refine (bstr_ok w1 _ _ HB1.out).mono ?_
        rintro e w2 ⟨rfl, h1, h2⟩
        have HW2 := Lib.hid (HW1.out.trans h2)
        have hle : w.heap.size ≤ w2.heap.size := by have := h1.lt; omega
        clear h1 h2
        go_wp2_with fail
        refine (quoted_ok acc w2 (by omega)).mono ?_
        rintro e w3 ⟨rfl, h2⟩
        have HW3 := Lib.hid (HW2.out.trans (h2.mono hle))
        clear h2
        go_wp2
        go_ret2
        rw [HN.out]
        exact ⟨rfl, HW3.out⟩
end Go.Proofs.YtbfbcbhnknhgnaaDoor
