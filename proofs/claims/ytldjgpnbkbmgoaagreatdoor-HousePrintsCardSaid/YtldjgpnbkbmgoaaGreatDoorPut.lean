/-
  The reference's put. Conditions: as each states.
-/
import Derived.Test.YtldjgpnbkbmgoaaGreatDoorBack
namespace Go.Proofs.YtldjgpnbkbmgoaaGreatDoor
open Go.RowKit Go.Lib

/-- What put gives. -/
def putL (l : List UInt8) (n : Int) (k : Nat) : List UInt8 := if n < 0 then l else l ++ toBE k n.toNat
def putB (n : Int) (k : Nat) : Bool := decide (0 ≤ n) && decide (n.toNat < 256 ^ k)
/-- Where a slice that was appended to lies: where it lay, or in a block made since. -/
def Kin (w : World) (s v : Value) : Prop := v.ownBlock = s.ownBlock ∨ ∃ g, v.ownBlock = some g ∧ w.heap.size ≤ g
theorem Kin.refl (w : World) (s : Value) : Kin w s s := .inl rfl
theorem grown_then {a b c : World} {r r' : Option Nat} (h : a.grownBy b r) (k : b.grownBy c r') (hr : r' = r ∨ ∃ g, r' = some g ∧ a.heap.size ≤ g) : a.grownBy c r :=
  ⟨k.os.trans h.os, k.tape.trans h.tape, k.output.trans h.output, Nat.le_trans h.size k.size, fun i hi hne => by
    refine (k.block i (Nat.lt_of_lt_of_le hi h.size) ?_).trans (h.block i hi hne)
    rcases hr with rfl | ⟨g, rfl, hg⟩
    · exact hne
    · intro e
      injection e with e
      omega⟩
theorem grown_of_below {w w' : World} (h : Below w.heap.size w w') (r : Option Nat) : w.grownBy w' r := ⟨h.os, h.tape, h.output, h.size, fun k hk _ => h.block k hk⟩
theorem below_of_grown {B : Nat} {w w' : World} {r : Option Nat} (h : w.grownBy w' r) (hB : B ≤ w.heap.size) (hr : ∀ g, r = some g → B ≤ g) : Below B w w' :=
  ⟨h.os, h.tape, h.output, h.size, fun k hk => h.block k (by omega) fun e => by have := hr k e.symm; omega⟩
theorem grown_refl (w : World) (r : Option Nat) : w.grownBy w r := ⟨rfl, rfl, rfl, Nat.le_refl _, fun _ _ _ => rfl⟩
def PPost (w : World) (base : Nat) (s : Value) (l : List UInt8) (b : Bool) (e : Ending) (w' : World) : Prop := ∃ v, e = .returned (.tuple #[v, .bool b]) ∧ Own byC 1 5 w' base v l ∧ w.grownBy w' s.ownBlock ∧ Kin w s v

/-- A slice of the call's own that is not empty lies in a block of its own. -/
theorem Own.block_of {α : Type} {enc : α → List Value} {k base : Nat} {e : TypeId} {w : World} {v : Value} {l : List α} (h : Own enc k e w base v l) (h0 : 0 < l.length) :
    ∃ g cap, v = .slice (some ⟨g, 0, none⟩) l.length cap ∧ base ≤ g ∧ g < w.heap.size ∧ l.length ≤ cap ∧ cap ≤ maxLen ∧ Lay w g 0 (l.flatMap enc) := by
  rcases h.2 with ⟨rfl, hz⟩ | ⟨g, cap, cur, rfl, hb, hg, h1, h2, _⟩
  · omega
  · refine ⟨g, cap, rfl, hb, (Array.getElem?_eq_some_iff.1 hg).1, h1, h2, fun j u hu => ?_⟩
    have := h.cells (g := g) rfl j u hu
    have hadd : (⟨g, 0, none⟩ : Addr).add j = ⟨g, 0 + j, none⟩ := by unfold Addr.add; split <;> simp_all
    rwa [hadd] at this

set_option maxRecDepth 100000 in
set_option maxHeartbeats 1000000 in
theorem rputs_ok (l : List UInt8) (s : Value) (n : Int) (k : Nat) (w : World) (base : Nat) (hs : Own byC 1 5 w base s l) (hbase : base ≤ w.heap.size) (h1 : 1 ≤ k) (h8 : k ≤ 8) (hn : n < 9223372036854775808) (hl : l.length ≤ 100000) :
    Calls Tryz.prog 73 #[s, .int .i64 n, .int .i64 k] w (PPost w base s (putL l n k) (putB n k)) := by
  have HS := Lib.hid hs
  obtain ⟨A, cap, rfl⟩ := hs.form
  by_cases hneg : n < 0
  · have e1 := Lib.hid (show putL l n k = l by unfold putL; rw [if_pos hneg])
    have e2 := Lib.hid (show putB n k = false by unfold putB; rw [decide_eq_false (by omega)]; rfl)
    clear hs
    go_enter Tryz.func73, Tryz.ntmps73
    go_wp2_with fail
    go_ret2
    exact ⟨_, by rw [e2.out]; rfl, by rw [e1.out]; exact HS.out, grown_refl _ _, Kin.refl _ _⟩
  · obtain ⟨m, rfl⟩ : ∃ m : Nat, n = m := ⟨n.toNat, by omega⟩
    have e1 := Lib.hid (show putL l m k = l ++ toBE k m by unfold putL; rw [if_neg hneg]; rfl)
    have e2 := Lib.hid (show putB m k = decide (m < 256 ^ k) by unfold putB; rw [decide_eq_true (by omega)]; simp)
    obtain ⟨k', rfl⟩ : ∃ k', k = k' + 1 := ⟨k - 1, by omega⟩
    have hp := fun w => rput_ok k' m w h8 (by omega)
    have hwrap : IntKind.u64.wrap (m : Int) = (m : Int) := by rw [IntKind.wrap_u64]; omega
    have HP := Lib.hid hp
    have hk1 : ((k' + 1 : Nat) : Int) = (k' : Int) + 1 := by omega
    rw [hk1]
    clear hs hp hneg hk1 hn
    go_enter Tryz.func73, Tryz.ntmps73
    go_wp2_with fail
    refine (HP.out _).mono ?_
    rintro e w1 ⟨v1, rfl, ho1, hb1⟩
    obtain ⟨gl, cl, rfl, hgl, hgl2, hc1, hc2, hlay⟩ := ho1.block_of (by rw [toBE_len]; omega)
    have hLL := toBE_len (k' + 1) m
    rw [hLL] at hc1
    have HSO := Lib.hid (HS.out.keep (w' := w1) fun b hb => hb1.block b (HS.out.lt b hb).2)
    have hne : (Value.slice A l.length cap).ownBlock ≠ some gl := fun e => by have := (HS.out.lt gl e).2; omega
    have HB1 := Lib.hid (grown_of_below hb1 (Value.slice A l.length cap).ownBlock)
    obtain ⟨r, hr⟩ : ∃ r, (Value.slice A l.length cap).ownBlock = r := ⟨_, rfl⟩
    have HRR := Lib.hid hr
    have HLTR := Lib.hid (fun g => HS.out.lt g)
    obtain ⟨L, hL⟩ : ∃ L, toBE (k' + 1) m = L := ⟨_, rfl⟩
    rw [hL] at hLL hlay e1
    have HLL := Lib.hid hLL
    rw [hL]
    rw [hLL]
    have HLAY := Lib.hid hlay
    have HNE := Lib.hid hne
    have hz1 := hb1.size
    unfold maxLen at hc2
    clear ho1 hb1 hlay hne hL hLL hr
    go_wp2_with fail
    go_loopw [0, 10] (fun bv iv wr => ∃ i : Nat, i ≤ k' + 1 ∧ iv = .int .i64 i ∧ Own byC 1 5 wr base bv (l ++ L.take i) ∧ Lay wr gl 0 (L.flatMap byC) ∧ gl < wr.heap.size ∧ bv.ownBlock ≠ some gl ∧ w.grownBy wr (Value.slice A l.length cap).ownBlock ∧ Kin w (.slice A l.length cap) bv) (fun _ iv _ => (k' + 1 - RowKit.intOf iv).toNat)
    case atStart => exact ⟨0, Nat.zero_le _, rfl, by simpa using HSO.out, HLAY.out, hgl2, HNE.out, HB1.out, Kin.refl _ _⟩
    case round =>
      obtain ⟨i, hi, rfl, hown, hlw, hglw, hnew, hgr, hkin⟩ := hrel
      by_cases hlt : i < k' + 1
      · have hiL : i < L.length := by rw [HLL.out]; exact hlt
        have x0 := (hlw.elem byC_len i hiL).by
        rw [Nat.mul_one, Nat.zero_add] at x0
        have hts := Lib.hid (List.take_succ_eq_append_getElem hiL)
        obtain ⟨x, hx⟩ : ∃ x, x = L[i] := ⟨_, rfl⟩
        rw [← hx] at x0
        have HXX := Lib.hid hx
        obtain ⟨A2, c2, rfl⟩ := hown.form
        have HO := Lib.hid hown
        have HLW := Lib.hid hlw
        have HNW := Lib.hid hnew
        have HLEN := Lib.hid (show (l ++ L.take i).length ≤ 100008 by simp; omega)
        have HOA := Lib.hid (HO.out.alloc (.cells #[.int .u8 (x.toNat : Int)] 5))
        have HBL := Lib.hid (Blk.new wr 5 #[.int .u8 (x.toNat : Int)]).lay
        have HGR := Lib.hid (grown_then hgr (grown_of_below ((Below.refl wr.heap.size wr).alloc (Nat.le_refl _) (.cells #[.int .u8 (x.toNat : Int)] 5)) (Value.slice A l.length cap).ownBlock) (.inl rfl))
        have HK := Lib.hid hkin
        have HLA := Lib.hid (HLW.out.of_heap (Below.heap_alloc wr (.cells #[.int .u8 (x.toNat : Int)] 5) gl hglw))
        have hsz := hgr.size
        have hz : base ≤ (wr.alloc (.cells #[.int .u8 (x.toNat : Int)] 5)).heap.size := by simp; omega
        have hgz : gl < (wr.alloc (.cells #[.int .u8 (x.toNat : Int)] 5)).heap.size := by simp; omega
        have hhz : (wr.alloc (.cells #[.int .u8 (x.toNat : Int)] 5)).heap.size = wr.heap.size + 1 := by simp
        have HHZ := Lib.hid hhz
        obtain ⟨cur, hcur⟩ : ∃ cur, l ++ L.take i = cur := ⟨_, rfl⟩
        rw [hcur] at HO HOA HLEN hown HNW HK ⊢
        have HCUR := Lib.hid hcur
        clear hown hlw hnew hx hgr hkin hhz hcur
        go_wp2_with (at_builtin; refine app_one by_elem by_enc rfl (.tmp 27) (.tmp 32) rfl rfl HOA.out x wr.heap.size 1 rfl HBL.out (by have := HLEN.out; unfold maxLen; omega) (by have := HLEN.out; omega) hz ?_; intro g' cap' w2 hown2 hgrow hat hlt2; have HO2 := Lib.hid hown2; have HG2 := Lib.hid (grown_then HGR.out hgrow HK.out); have HL2 := Lib.hid (HLA.out.of_heap (hgrow.block gl hgz (fun e => HNW.out e.symm))); have HGL := Lib.hid (Nat.lt_of_lt_of_le hgz hgrow.size); have HAT := Lib.hid (show (Value.slice A2 cur.length c2).ownBlock = some g' ∨ g' = (wr.alloc (.cells #[.int .u8 (x.toNat : Int)] 5)).heap.size from hat); clear hown2 hat hgrow)
        go_roundw
        case rel =>
          refine ⟨i + 1, by omega, by go_num, by rw [hts.out, ← HXX.out, ← List.append_assoc, HCUR.out]; exact HO2.out, HL2.out, HGL.out, ?_, HG2.out, ?_⟩
          · rcases HAT.out with h | h
            · exact fun e => HNW.out (h.trans e)
            · intro e
              rw [HHZ.out] at h
              simp only [Value.ownBlock, Option.some.injEq] at e
              omega
          · rcases HAT.out with h | h
            · rcases HK.out with hk | ⟨g, hk, hg⟩
              · exact .inl (h.symm.trans hk)
              · exact .inr ⟨g, h.symm.trans hk, hg⟩
            · exact .inr ⟨g', rfl, by rw [HHZ.out] at h; omega⟩
        case measure => simp [RowKit.intOf]; omega
      · obtain rfl : i = k' + 1 := by omega
        obtain ⟨A2, c2, rfl⟩ := hown.form
        have HO := Lib.hid hown
        have HLX := Lib.hid (show L.take (k' + 1) = L by rw [← HLL.out, List.take_length])
        have HGR := Lib.hid hgr
        have HK := Lib.hid hkin
        clear hown hlw hnew hgr hkin
        go_wp2_with fail
        go_ret2
        refine ⟨_, by rw [e2.out]; rfl, ?_, HGR.out, HK.out⟩
        have h := HO.out
        rw [e1.out]
        rw [HLX.out] at h ⊢
        exact h
end Go.Proofs.YtldjgpnbkbmgoaaGreatDoor
