/-
  The reader's into and rect: numbers taken into places. Conditions: as each states.
-/
import Derived.Test.YtldjgpnbkbmgoaaGreatDoorReader
import Derived.StillTailTactics
import Derived.Deep.RegionHeld3
namespace Go.Proofs.YtldjgpnbkbmgoaaGreatDoor
open Go.RowKit

/-- Every block but two stands. -/
structure Two (w w' : World) (g t : Nat) : Prop where
  os : w'.os = w.os
  tape : w'.tape = w.tape
  output : w'.output = w.output
  size : w.heap.size ≤ w'.heap.size
  block : ∀ k, k < w.heap.size → k ≠ g → k ≠ t → w'.heap[k]? = w.heap[k]?
theorem Two.refl (w : World) (g t : Nat) : Two w w g t := ⟨rfl, rfl, rfl, Nat.le_refl _, fun _ _ _ _ => rfl⟩
theorem Two.trans {a b c : World} {g t : Nat} (h : Two a b g t) (k : Two b c g t) : Two a c g t :=
  ⟨k.os.trans h.os, k.tape.trans h.tape, k.output.trans h.output, Nat.le_trans h.size k.size, fun i hi h1 h2 => (k.block i (Nat.lt_of_lt_of_le hi h.size) h1 h2).trans (h.block i hi h1 h2)⟩
theorem Two.of_g {a b : World} {g t : Nat} (h : a.grownBy b (some g)) : Two a b g t := ⟨h.os, h.tape, h.output, h.size, fun k hk h1 _ => h.block k hk (fun e => h1 (Option.some.inj e))⟩
theorem Two.of_t {a b : World} {g t : Nat} (h : a.grownBy b (some t)) : Two a b g t := ⟨h.os, h.tape, h.output, h.size, fun k hk _ h2 => h.block k hk (fun e => h2 (Option.some.inj e))⟩
theorem Two.of_below {a b : World} {g t : Nat} (h : Below a.heap.size a b) : Two a b g t := ⟨h.os, h.tape, h.output, h.size, fun k hk _ _ => h.block k hk⟩
theorem Two.blk {w w' : World} {g t b : Nat} {T : TypeId} {cs : Array Value} (h : Two w w' g t) (hb : Blk w b T cs) (h1 : b ≠ g) (h2 : b ≠ t) : Blk w' b T cs := (h.block b hb.lt h1 h2).trans hb
theorem Two.below {w w' : World} {g t B : Nat} (h : Two w w' g t) (h1 : B ≤ g) (h2 : B ≤ t) (hB : B ≤ w.heap.size) : Below B w w' := ⟨h.os, h.tape, h.output, h.size, fun k hk => h.block k (by omega) (by omega) (by omega)⟩
theorem Rd.far {w w' : World} {g t : Nat} {s : RSt} (h : Rd w g s) (hw : w.grownBy w' (some t)) (ht : g < t) : Rd w' g s := by
  have hlt := h.lt
  obtain ⟨A, cap, h1, h2, h3⟩ := h
  exact ⟨A, cap, h1.grown hw (fun e => by have := Option.some.inj e; omega), h2.keep fun b hb => hw.block b (by omega) (fun e => by have := Option.some.inj e; omega), h3⟩

/-- Numbers into places. -/
def intoS : List Nat → Array Value × RSt → Array Value × RSt
  | [], p => p
  | o :: r, p => intoS r (p.1.setIfInBounds o (.int .i64 ((rNum p.2).1 : Nat)), (rNum p.2).2)
theorem intoS_app : ∀ (a b : List Nat) (p : Array Value × RSt), intoS (a ++ b) p = intoS b (intoS a p)
  | [], _, _ => rfl
  | _ :: a, b, _ => intoS_app a b _
theorem intoS_size : ∀ (a : List Nat) (p : Array Value × RSt), (intoS a p).1.size = p.1.size
  | [], _ => rfl
  | _ :: a, _ => by
    rw [intoS, intoS_size a]
    simp
def ptC (t : Nat) (o : Nat) : Value := .pointer (some ⟨t, o, none⟩)
def IPut (w : World) (g t : Nat) (T : TypeId) (p : Array Value × RSt) (e : Ending) (w' : World) : Prop :=
  e = .returned (.tuple #[]) ∧ Rd w' g p.2 ∧ Blk w' t T p.1 ∧ Two w w' g t

set_option maxRecDepth 100000 in
set_option maxHeartbeats 2000000 in
theorem into_ok (w : World) (g : Nat) (s : RSt) (h : Rd w g s) (t : Nat) (T : TypeId) (cs : Array Value) (ht : Blk w t T cs) (hgt : g < t) (offs : List Nat) (ho : ∀ o ∈ offs, o < cs.size) (lb : Nat) (lcs : Array Value) (hlb : Blk w lb 152 lcs) (hls : lcs.toList = offs.map (ptC t)) (hT : T ≠ 152) (hl : offs.length ≤ 100) :
    Calls Tryz.prog 99 #[.pointer (some ⟨g, 0, none⟩), .func (.func 59) #[.pointer (some ⟨g, 0, none⟩)] #[], .slice (some ⟨lb, 0, none⟩) offs.length offs.length] w (IPut w g t T (intoS offs (cs, s))) := by
  have hlg : lb ≠ g := by
    obtain ⟨A, cap, h1, _⟩ := h
    exact hlb.ne_ h1 (by decide)
  have hlt : lb ≠ t := hlb.ne_ ht (fun e => hT e.symm)
  have HH := Lib.hid h
  have HT := Lib.hid ht
  have HL := Lib.hid hlb
  have HS := Lib.hid hls
  have HO := Lib.hid ho
  clear h ht hlb hls ho
  go_enter Tryz.func99, Tryz.ntmps99
  go_wp2
  go_loopw [10] (fun iv wr => ∃ k, k ≤ offs.length ∧ iv = .int .i64 (k : Nat) ∧ Rd wr g (intoS (offs.take k) (cs, s)).2 ∧ Blk wr t T (intoS (offs.take k) (cs, s)).1 ∧ Two w wr g t) (fun iv _ => (offs.length - intOf iv).toNat)
  case atStart => exact ⟨0, Nat.zero_le _, rfl, HH.out, HT.out, Two.refl _ _ _⟩
  case round =>
    obtain ⟨k, hk, rfl, hrd, hblk, htwo⟩ := hrel
    by_cases hlt2 : k < offs.length
    · obtain ⟨o, hoo⟩ : ∃ o, o = offs[k] := ⟨_, rfl⟩
      have hki : (k : Int) < (offs.length : Int) := by omega
      have hlb2 := htwo.blk HL.out hlg hlt
      have x0 : wr.cell? ⟨lb, k, none⟩ = some (.pointer (some ⟨t, o, none⟩)) := by
        rw [hlb2.cell, ← Array.getElem?_toList, HS.out, List.getElem?_map, List.getElem?_eq_getElem hlt2, ← hoo]
        rfl
      have hst : intoS (offs.take (k + 1)) (cs, s) = intoS [o] (intoS (offs.take k) (cs, s)) := by rw [List.take_succ_eq_append_getElem hlt2, intoS_app, ← hoo]
      have hosz : o < (intoS (offs.take k) (cs, s)).1.size := by
        rw [intoS_size]
        exact HO.out o (by rw [hoo]; exact List.getElem_mem hlt2)
      obtain ⟨p, hp⟩ : ∃ p, p = intoS (offs.take k) (cs, s) := ⟨_, rfl⟩
      rw [← hp] at hrd hblk hst hosz
      have HP := Lib.hid hp
      have HR := Lib.hid hrd
      have HB := Lib.hid hblk
      have HW := Lib.hid htwo
      have HST := Lib.hid hst
      clear hoo hlb2 hst hp hrd hblk htwo
      go_wp2_with fail
      refine (number_rd wr g p.2 HR.out).mono ?_
      rintro e w1 ⟨rfl, h1, h2⟩
      have hb1 := HB.out.grown h2 (fun e => by have := Option.some.inj e; omega)
      obtain ⟨u, hu⟩ : ∃ u, p.1[o]? = some u := ⟨_, Array.getElem?_eq_getElem hosz⟩
      have d0 := hb1.is o hu
      have g0 := hb1.frozen o
      have HR1 := Lib.hid h1
      have HB1 := Lib.hid hb1
      have HW1 := Lib.hid (HW.out.trans (Two.of_g h2))
      clear h1 h2 hb1 x0 hu
      go_wp2
      go_roundw
      case rel =>
        refine ⟨k + 1, by omega, by go_num, ?_, ?_, HW1.out.trans (Two.of_t (grow_set _ _ _ _))⟩
        · rw [HST.out]
          exact HR1.out.far (grow_set _ _ _ _) hgt
        · rw [HST.out]
          exact HB1.out.put o _
      case measure => simp [intOf]; omega
    · obtain rfl : k = offs.length := by omega
      rw [List.take_length] at hrd hblk
      go_wp2
      refine bodyPost_ret (results_none rfl _ _ _) rfl ?_
      exact ⟨rfl, hrd, hblk, htwo⟩

theorem Rd.drew {w : World} {g : Nat} {s : RSt} (h : Rd w g s) : Rd w.drew g s := by
  obtain ⟨A, cap, h1, h2, h3⟩ := h
  exact ⟨A, cap, h1, h2, h3⟩
theorem Blk.drew {w : World} {g : Nat} {t : TypeId} {cs : Array Value} (h : Blk w g t cs) : Blk w.drew g t cs := h
theorem Two.drew {a w : World} {g t : Nat} (h : Two a w g t) : Two a w.drew g t := ⟨h.os, h.tape, h.output, h.size, h.block⟩
/-- into, its places in a slice that has just been built. -/
theorem into_new (w : World) (g : Nat) (s : RSt) (h : Rd w g s) (t : Nat) (T : TypeId) (cs : Array Value) (ht : Blk w t T cs) (hgt : g < t) (offs : List Nat) (ho : ∀ o ∈ offs, o < cs.size) (lb : Nat) (hlb : lb = w.heap.size) (lcs : Array Value) (hls : lcs.toList = offs.map (ptC t)) (hT : T ≠ 152) (k : Nat) (hk : k = offs.length) (hl : offs.length ≤ 100) :
    Calls Tryz.prog 99 #[.pointer (some ⟨g, 0, none⟩), .func (.func 59) #[.pointer (some ⟨g, 0, none⟩)] #[], .slice (some ⟨lb, 0, none⟩) k k] (w.alloc (.cells lcs 152)) (IPut w g t T (intoS offs (cs, s))) := by
  subst hlb
  subst hk
  refine (into_ok _ g s (h.keep ((Below.refl w.heap.size w).alloc (Nat.le_refl _) _)) t T cs (ht.alloc _) hgt offs ho w.heap.size lcs (Blk.new w _ _) hls hT hl).mono ?_
  rintro e w' ⟨he, h1, h2, h3⟩
  exact ⟨he, h1, h2, (Two.of_below ((Below.refl w.heap.size w).alloc (Nat.le_refl _) _)).trans h3⟩

set_option maxRecDepth 100000 in
set_option maxHeartbeats 2000000 in
theorem rect_rd (w : World) (g : Nat) (s : RSt) (h : Rd w g s) (t : Nat) (T : TypeId) (cs : Array Value) (ht : Blk w t T cs) (hgt : g < t) (off : Nat) (ho : off + 3 < cs.size) (hT : T ≠ 152) :
    Calls Tryz.prog 101 #[.pointer (some ⟨g, 0, none⟩), .pointer (some ⟨t, off, none⟩)] w (IPut w g t T (intoS [off, off + 1, off + 2, off + 3] (cs, s))) := by
  have HH := Lib.hid h.drew
  have HT := Lib.hid (show Blk w.drew t T cs from ht)
  have HW := Lib.hid (Two.refl w g t).drew
  clear h ht
  go_enter Tryz.func101, Tryz.ntmps101
  go_wp2_with fail
  go_region_held3 (fun _ => True) (trivial) (first | (go_at_call 99; refine (into_new _ g s (by exact HH.out) t T cs (by exact HT.out) hgt [off, off + 1, off + 2, off + 3] (by simp; omega) _ (by rfl) _ (by rfl) hT _ (by rfl) (by simp)).mono ?_; rintro e w3 ⟨rfl, h1, h2, h3⟩; have H1 := Lib.hid h1; have H2 := Lib.hid h2; have H3 := Lib.hid (HW.out.trans h3); clear h1 h2 h3))
  all_goals
    refine bodyPost_ret (results_none rfl _ _ _) rfl ?_
    exact ⟨rfl, H1.out, H2.out, H3.out⟩
end Go.Proofs.YtldjgpnbkbmgoaaGreatDoor
