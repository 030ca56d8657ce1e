/-
  The writer of words: put, numbers, rect, line. Conditions: as each states.
-/
import Derived.Test.YtldjgpnbkbmgoaaGreatDoorQuote
namespace Go.Proofs.YtldjgpnbkbmgoaaGreatDoor
open Go.RowKit

def stC (t : List UInt8) : List Value := [strV t]
theorem stC_len (t : List UInt8) : (stC t).length = 1 := rfl
theorem st_enc : EncOk stC 1 := ⟨stC_len, fun a u hu => by
  simp only [stC, List.mem_cons, List.not_mem_nil, or_false] at hu
  subst hu
  rfl⟩
theorem st_elem : ElemOk Tryz.prog 110 9 1 16 := ⟨Tryz.underlying110, by
  have h : (Tryz.prog.info? 9).map (fun i => (i.zero, i.size, i.bytes)) = some (some (.string ⟨#[]⟩), 1, 16) := by kernel_rfl
  obtain ⟨i, hi, h1, h2, h3⟩ := info_parts h
  exact ⟨i, _, hi, h1, h2, h3, rfl⟩, by omega⟩
def nmC (n : Int) : List Value := [.int .i64 n]
theorem nmC_len (n : Int) : (nmC n).length = 1 := rfl
theorem nm_enc : EncOk nmC 1 := ⟨nmC_len, fun a u hu => by
  simp only [nmC, List.mem_cons, List.not_mem_nil, or_false] at hu
  subst hu
  rfl⟩
theorem Lay.nm {w : World} {b off : Nat} {x : Int} (h : Lay w b off (nmC x)) : w.cell? ⟨b, off, none⟩ = some (.int .i64 x) := h 0 _ rfl
theorem Lay.st {w : World} {b off : Nat} {x : List UInt8} (h : Lay w b off (stC x)) : w.cell? ⟨b, off, none⟩ = some (strV x) := h 0 _ rfl

/-- Every block but g, and but rows of strings, stands. -/
abbrev Oth (w w' : World) (g : Nat) : Prop := Lib.OthersKept 9 (some g) w w'
theorem Oth.blk {w w' : World} {g b : Nat} {t : TypeId} {cs : Array Value} (h : Oth w w' g) (hb : Blk w b t cs) (hne : b ≠ g) (ht : t ≠ 9) : Blk w' b t cs :=
  h b _ hb (fun e => hne (Option.some.inj e)) (fun c fz e => by cases e; exact ht rfl)
theorem oth_below {w w' : World} {g : Nat} (h : Below w.heap.size w w') : Oth w w' g := fun k _ hk _ _ => (h.block k (Array.getElem?_eq_some_iff.1 hk).1).trans hk

theorem Oth.set {w w' : World} {g : Nat} (h : Oth w w' g) (i : Nat) (u : Value) : Oth w (w'.setCell ⟨g, i, none⟩ u) g := Lib.OthersKept.setCell h ⟨g, i, none⟩ rfl u
theorem Blk.ne_ {w : World} {g g' : Nat} {t t' : TypeId} {cs cs' : Array Value} (h : Blk w g t cs) (h' : Blk w g' t' cs') (hne : t ≠ t') : g ≠ g' := by
  rintro rfl
  unfold Blk at h h'
  rw [h] at h'
  injection h' with h'
  injection h' with _ ht
  exact hne ht
/-- A writer in block g. -/
def Wri (w : World) (base g : Nat) (ws : List (List UInt8)) (bad : Bool) : Prop :=
  ∃ A cap, Blk w g 119 #[.slice A ws.length cap, .bool bad] ∧ base ≤ g ∧ Own stC 1 9 w base (.slice A ws.length cap) ws
def WPut (w : World) (base g : Nat) (ws : List (List UInt8)) (bad : Bool) (e : Ending) (w' : World) : Prop :=
  e = .returned (.tuple #[]) ∧ Wri w' base g ws bad ∧ Oth w w' g ∧ Below base w w'
theorem Wri.lt {w : World} {base g : Nat} {ws : List (List UInt8)} {bad : Bool} (h : Wri w base g ws bad) : base ≤ g ∧ g < w.heap.size := by
  obtain ⟨A, cap, h1, h2, h3⟩ := h
  exact ⟨h2, h1.lt⟩
theorem Wri.keep {w w' : World} {base g : Nat} {ws : List (List UInt8)} {bad : Bool} (h : Wri w base g ws bad) (hb : Below w.heap.size w w') : Wri w' base g ws bad := by
  obtain ⟨A, cap, h1, h2, h3⟩ := h
  exact ⟨A, cap, h1.below hb h1.lt, h2, h3.keep fun b hv => hb.block b (h3.lt b hv).2⟩
theorem Wri.new (w : World) (base : Nat) (h : base ≤ w.heap.size) : Wri (w.alloc (.cells #[.slice none 0 0, .bool false] 119)) base w.heap.size [] false :=
  ⟨none, 0, Blk.new w _ _, h, Own.nil⟩

theorem below_of_own {α : Type} {enc : α → List Value} {k base : Nat} {e : TypeId} {w w' : World} {v : Value} {l : List α} (hg : w.grownBy w' v.ownBlock) (hb : base ≤ w.heap.size) (ho : Own enc k e w base v l) : Below base w w' :=
  (Below.refl base w).grown hg hb (fun g hg => (ho.lt g hg).1)

set_option maxRecDepth 100000 in
set_option maxHeartbeats 1000000 in
theorem wput_ok (w : World) (base g : Nat) (ws : List (List UInt8)) (bad : Bool) (h : Wri w base g ws bad) (B : Nat) (s : Value) (new : List (List UInt8)) (hs : Sl stC w B s new) (h0 : 0 < new.length) (hl : ws.length + new.length ≤ 1000000) :
    Calls Tryz.prog 68 #[.pointer (some ⟨g, 0, none⟩), s] w (WPut w base g (ws ++ new) bad) := by
  obtain ⟨A, cap, hb, hbg, ho⟩ := h
  have hsz : base ≤ w.heap.size := Nat.le_of_lt (Nat.lt_of_le_of_lt hbg hb.lt)
  have hne := ho.ne_blk hb (by decide)
  have c0 := hb.is 0 rfl
  have HB := Lib.hid hb
  have HO := Lib.hid ho
  have HS := Lib.hid hs
  clear hb ho hs
  go_enter Tryz.func68, Tryz.ntmps68
  go_wp2_with (at_builtin; (refine app_sl st_elem st_enc rfl (.tmp 8) (.tmp 9) rfl rfl HO.out s rfl new _ HS.out h0 (by unfold maxLen; omega) (by omega) hsz ?_; intro g' cap' w3 hown3 hgrow hat hlt3; have HB3 := Lib.hid (HB.out.grown hgrow (fun e => hne e.symm)); have b1 := HB3.out.is 0 rfl; have b0 := HB3.out.frozen 0; have HO3 := Lib.hid hown3; have HG := Lib.hid (show w.grownBy w3 (Value.slice A ws.length cap).ownBlock from hgrow); clear hown3 hgrow hat))
  refine bodyPost_ret (results_none rfl _ _ _) rfl ?_
  rw [← List.length_append]
  refine ⟨rfl, ⟨_, _, HB3.out.put 0 _, hbg, HO3.out.set _ (HO3.out.ne_blk HB3.out (by decide))⟩, ?_, (below_of_own HG.out hsz HO.out).setCell hbg _⟩
  refine Oth.set (Lib.OthersKept.grown (Lib.OthersKept.refl 9 (some g) w) HG.out (fun k hk => ?_)) _ _
  rcases HO.out.2 with ⟨e, _⟩ | ⟨g1, cap1, cur, e, _, hg1, _⟩
  · rw [e] at hk; simp [Value.ownBlock] at hk
  · rw [e] at hk
    simp only [Value.ownBlock, Option.some.injEq] at hk
    subst hk
    exact ⟨_, _, hg1⟩

/-- What a number below 2^63 is as a uint64. -/
def u64n (n : Int) : Nat := (n % 18446744073709551616).toNat
def tooB (n : Int) : Bool := decide (n < 0) || decide ((4611686018427387903 : Int) < n)
theorem u64n_nat (n : Nat) (h : n < 18446744073709551616) : u64n (n : Int) = n := by unfold u64n; omega
theorem u64n_lt (n : Int) : u64n n < 18446744073709551616 := by unfold u64n; omega
theorem ntext_eq (x : Int) (m : Nat) (hx : x = (m : Int)) (hm : m < 18446744073709551616) (w : World) : Calls Tryz.prog 66 #[.int .u64 x] w (SPost w (txt m)) := by
  subst hx
  exact ntext_ok m w hm
theorem u64n_wrap (n : Int) : IntKind.u64.wrap n = (u64n n : Int) := by rw [IntKind.wrap_u64]; unfold u64n; omega
theorem u64n_id (n : Int) (h0 : 0 ≤ n) (h1 : n ≤ 4611686018427387903) : n = (u64n n : Int) := by unfold u64n; omega
/-- A slice of one word, just built. -/
theorem Sl.word (w : World) (t : List UInt8) : Sl stC (w.alloc (.cells #[strV t] 9)) (w.heap.size + 1) (.slice (some ⟨w.heap.size, 0, none⟩) 1 1) [t] :=
  ⟨_, 1, rfl, Nat.le_refl _, by decide, fun _ => ⟨_, 0, rfl, Nat.lt_succ_self _, (Blk.new w 9 #[strV t]).lay⟩⟩
def nsW (ns : List Int) : List (List UInt8) := ns.map fun n => txt (u64n n)
def nsB (ns : List Int) : Bool := ns.any tooB
theorem nsB_snoc (ns : List Int) (n : Int) : nsB (ns ++ [n]) = (nsB ns || tooB n) := by unfold nsB; rw [List.any_append]; simp

set_option maxRecDepth 100000 in
set_option maxHeartbeats 2000000 in
theorem wnumbers_ok (w : World) (base g : Nat) (ws : List (List UInt8)) (bad : Bool) (h : Wri w base g ws bad) (b : Nat) (cs : Array Value) (ns : List Int) (hb : Blk w b 3 cs) (hcs : cs.toList = ns.flatMap nmC) (hl : ws.length + ns.length ≤ 1000000) :
    Calls Tryz.prog 67 #[.pointer (some ⟨g, 0, none⟩), .slice (some ⟨b, 0, none⟩) ns.length ns.length] w (WPut w base g (ws ++ nsW ns) (bad || nsB ns)) := by
  have hbg : b ≠ g := by
    obtain ⟨A, cap, h1, _⟩ := h
    exact hb.ne_ h1 (by decide)
  have hn6 : ns.length ≤ 1000000 := by omega
  have HH := Lib.hid h
  have HB := Lib.hid hb
  have HC := Lib.hid hcs
  clear h hb hcs
  go_enter Tryz.func67, Tryz.ntmps67
  go_wp2
  go_loopw [8] (fun iv wr => ∃ k, k ≤ ns.length ∧ iv = .int .i64 (k : Nat) ∧ Wri wr base g (ws ++ nsW (ns.take k)) (bad || nsB (ns.take k)) ∧ Oth w wr g ∧ Below base w wr) (fun iv _ => (ns.length - intOf iv).toNat)
  case atStart => exact ⟨0, Nat.zero_le _, rfl, by simpa [nsW, nsB] using HH.out, Lib.OthersKept.refl _ _ _, Below.refl _ _⟩
  case round =>
    obtain ⟨k, hk, rfl, hwri, hoth, hbel⟩ := hrel
    by_cases hlt : k < ns.length
    · obtain ⟨n, hn⟩ : ∃ n, n = ns[k] := ⟨_, rfl⟩
      have hlay : Lay wr b 0 (ns.flatMap nmC) := by
        have := (hoth.blk HB.out hbg (by decide)).lay
        rwa [HC.out] at this
      have x0 := (hlay.elem nmC_len k hlt).nm
      rw [Nat.mul_one, Nat.zero_add, ← hn] at x0
      have hst : ns.take (k + 1) = ns.take k ++ [n] := by rw [List.take_succ_eq_append_getElem hlt, ← hn]
      have hw1 : nsW (ns.take (k + 1)) = nsW (ns.take k) ++ [txt (u64n n)] := by rw [hst]; simp [nsW]
      have hb1 : nsB (ns.take (k + 1)) = (nsB (ns.take k) || tooB n) := by rw [hst, nsB_snoc]
      have hlen : (nsW (ns.take k)).length ≤ k := by simp [nsW]; omega
      obtain ⟨bd, hbd⟩ : ∃ bd, bd = (bad || nsB (ns.take k)) := ⟨_, rfl⟩
      rw [← hbd] at hwri
      obtain ⟨A, cap, g1, g2, g3⟩ := hwri
      have c1 := g1.is 1 rfl
      have f1 := g1.frozen 1
      have HB1 := Lib.hid (g1.put 1 (.bool (bd || tooB n)))
      have HO1 := Lib.hid (g3.set (p := ⟨g, 1, none⟩) (.bool (bd || tooB n)) (g3.ne_blk g1 (by decide)))
      have HOth := Lib.hid (hoth.set 1 (.bool (bd || tooB n)))
      have HBel := Lib.hid (hbel.setCell (p := ⟨g, 1, none⟩) g2 (.bool (bd || tooB n)))
      have HS := Lib.hid hw1
      have HT := Lib.hid hb1
      have HD := Lib.hid hbd
      have HL := Lib.hid hlen
      have hcase : bd = true ∨ (bd = false ∧ n < 0) ∨ (bd = false ∧ 0 ≤ n ∧ (4611686018427387903 : Int) < n) ∨ (bd = false ∧ 0 ≤ n ∧ n ≤ 4611686018427387903 ∧ decide (n < 0) = false ∧ decide ((4611686018427387903 : Int) < n) = false) := by
        cases bd
        · simp
          omega
        · simp
      clear hn hlay hst hw1 hb1 hbd g1 g3 hoth hbel hlen
      have hval : (bd || tooB n) = (bd || tooB n) := rfl
      rcases hcase with rfl | ⟨rfl, q1⟩ | ⟨rfl, q1, q2⟩ | ⟨rfl, q1, q2, q3, q4⟩
      all_goals
        (first
          | (have hv : (true || tooB n) = true := rfl; rw [hv] at HB1 HO1 HOth HBel; clear hv)
          | (have hv : (false || tooB n) = true := (by unfold tooB; simp; omega); rw [hv] at HB1 HO1 HOth HBel; clear hv)
          | (have hv : (false || tooB n) = false := (by unfold tooB; simp; omega); rw [hv] at HB1 HO1 HOth HBel; clear hv))
        (first
          | (obtain ⟨w1, hst⟩ : ∃ w1, wr.setCell ⟨g, 1, none⟩ (.bool true) = w1 := ⟨_, rfl⟩; rw [hst] at HB1 HO1 HOth HBel)
          | (obtain ⟨w1, hst⟩ : ∃ w1, wr.setCell ⟨g, 1, none⟩ (.bool false) = w1 := ⟨_, rfl⟩; rw [hst] at HB1 HO1 HOth HBel))
        clear hval
        go_wp2_with fail
        refine (ntext_eq _ (u64n n) (by first | exact u64n_wrap n | exact u64n_id n q1 q2) (u64n_lt n) w1).mono ?_
        rintro e w2 ⟨rfl, h2⟩
        have hwri := Wri.keep ⟨_, _, HB1.out, g2, HO1.out⟩ h2
        have hoth2 := HOth.out.trans (oth_below h2)
        have hbel2 := HBel.out.trans (h2.mono (Nat.le_trans g2 (Nat.le_of_lt HB1.out.lt)))
        have hbl2 : base ≤ w2.heap.size := Nat.le_trans hwri.lt.1 (Nat.le_of_lt hwri.lt.2)
        have HWr := Lib.hid (hwri.keep ((Below.refl w2.heap.size w2).alloc (Nat.le_refl _) (.cells #[strV (txt (u64n n))] 9)))
        have HO2 := Lib.hid (hoth2.alloc (.cells #[strV (txt (u64n n))] 9))
        have HBe2 := Lib.hid (hbel2.alloc hbl2 (.cells #[strV (txt (u64n n))] 9))
        have HSl := Lib.hid (Sl.word w2 (txt (u64n n)))
        clear h2 hwri hoth2 hbel2 hst c1 f1 x0
        go_wp2_with fail
        refine (wput_ok _ base g _ _ HWr.out _ _ [txt (u64n n)] HSl.out (by simp) (by have := HL.out; simp only [List.length_append, List.length_cons, List.length_nil]; omega)).mono ?_
        rintro e w3 ⟨rfl, h1, h2, h3⟩
        have HWr3 := Lib.hid h1
        have HO3 := Lib.hid (HO2.out.trans h2)
        have HBe3 := Lib.hid (HBe2.out.trans h3)
        clear h1 h2 h3
        go_wp2
        go_roundw
        case rel =>
          refine ⟨k + 1, by omega, by go_num, ?_, HO3.out, HBe3.out⟩
          rw [HS.out, HT.out, ← Bool.or_assoc, ← HD.out, ← List.append_assoc]
          first
            | exact HWr3.out
            | (have hv : tooB n = true := (by unfold tooB; simp; omega); rw [hv]; exact HWr3.out)
            | (have hv : tooB n = false := (by unfold tooB; simp; omega); rw [hv]; exact HWr3.out)
        case measure => simp [intOf]; omega
    · obtain rfl : k = ns.length := by omega
      rw [List.take_length] at hwri
      go_wp2
      refine bodyPost_ret (results_none rfl _ _ _) rfl ?_
      exact ⟨rfl, hwri, hoth, hbel⟩
end Go.Proofs.YtldjgpnbkbmgoaaGreatDoor
