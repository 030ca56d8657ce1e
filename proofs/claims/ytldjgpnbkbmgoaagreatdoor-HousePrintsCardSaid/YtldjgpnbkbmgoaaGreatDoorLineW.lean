/-
  The writer's line and rect; operations' and statuses' words. Conditions: as each states.
-/
import Derived.Test.YtldjgpnbkbmgoaaGreatDoorWriter
import Derived.Test.YtldjgpnbkbmgoaaGreatDoorKnown
namespace Go.Proofs.YtldjgpnbkbmgoaaGreatDoor
open Go.RowKit

theorem joined (ws : List (List UInt8)) : Lib.join ((ws.map fun t => (⟨t.toArray⟩ : ByteArray)).map (·.data.toList)) (ByteArray.mk #[32]).data.toList = joinW ws := by
  rw [List.map_map]
  have e : ((fun b : ByteArray => b.data.toList) ∘ fun t : List UInt8 => (⟨t.toArray⟩ : ByteArray)) = id := by
    funext t
    simp
  rw [e, List.map_id]

theorem join_ok (w : World) (B : Nat) (s : Value) (ws : List (List UInt8)) (hs : Sl stC w B s ws) (hB : B ≤ w.heap.size) (hn : ws.length ≤ 140737488355328) (hl : (joinW ws).length ≤ 140737488355328) :
    Calls Tryz.prog 104 #[s, .string ⟨#[32]⟩] w (SPost w (joinW ws)) := by
  obtain ⟨A, cap, rfl, h1, h2, h3⟩ := hs
  rcases Nat.eq_zero_or_pos ws.length with h0 | h0
  · have hw : ws = [] := List.eq_nil_of_length_eq_zero h0
    subst hw
    refine (Any.strings_Join_none lays156 Builder_Extra_156 A cap ⟨#[32]⟩ w).mono ?_
    rintro e w' ⟨rfl, rfl⟩
    exact ⟨rfl, Below.refl _ _⟩
  · obtain ⟨b, off, rfl, hb, hlay⟩ := h3 h0
    have h := Any.strings_Join lays156 Builder_Extra_156 b off cap (ws.map fun t => (⟨t.toArray⟩ : ByteArray)) ⟨#[32]⟩ w (fun j x hx => ?_) (by omega) (by simpa using hn) (by simpa using h1) (by rw [joined]; exact hl)
    · rw [joined, List.length_map] at h
      exact h
    · rw [List.getElem?_map] at hx
      cases hj : ws[j]? with
      | none => rw [hj] at hx; cases hx
      | some t =>
        rw [hj] at hx
        simp only [Option.map_some, Option.some.injEq] at hx
        subst hx
        obtain ⟨hlt, he⟩ := List.getElem?_eq_some_iff.1 hj
        have := (hlay.elem stC_len j hlt).st
        rw [Nat.mul_one, he] at this
        exact this

theorem line_ok (w : World) (base g : Nat) (ws : List (List UInt8)) (bad : Bool) (h : Wri w base g ws bad) (hn : ws.length ≤ 140737488355328) (hl : (joinW ws).length ≤ 140737488355328) :
    Calls Tryz.prog 71 #[.pointer (some ⟨g, 0, none⟩)] w (SPost w (joinW ws)) := by
  obtain ⟨A, cap, h1, h2, h3⟩ := h
  have c0 := h1.is 0 rfl
  have HS := Lib.hid h3.sl
  clear h1 h3
  go_enter Tryz.func71, Tryz.ntmps71
  go_wp2_with fail
  refine (join_ok w w.heap.size _ ws HS.out (Nat.le_refl _) hn hl).mono ?_
  rintro e w1 ⟨rfl, h1⟩
  go_wp2
  go_ret
  exact ⟨rfl, h1⟩

/-- Numbers in a slice that has just been built; -/
theorem numbers_new (w : World) (base g : Nat) (ws : List (List UInt8)) (bad : Bool) (h : Wri w base g ws bad) (ns : List Int) (cs : Array Value) (hcs : cs.toList = ns.flatMap nmC) (b k : Nat) (hb : b = w.heap.size) (hk : k = ns.length) (hl : ws.length + ns.length ≤ 1000000) :
    Calls Tryz.prog 67 #[.pointer (some ⟨g, 0, none⟩), .slice (some ⟨b, 0, none⟩) k k] (w.alloc (.cells cs 3)) (WPut w base g (ws ++ nsW ns) (bad || nsB ns)) := by
  subst hb
  subst hk
  have hlt := h.lt
  refine (wnumbers_ok _ base g ws bad (h.keep ((Below.refl w.heap.size w).alloc (Nat.le_refl _) _)) w.heap.size cs ns (Blk.new w _ _) hcs hl).mono ?_
  rintro e w' ⟨he, h1, h2, h3⟩
  exact ⟨he, h1, (((Lib.OthersKept.refl 9 (some g) w).alloc _).trans h2), ((Below.refl base w).alloc (by omega) _).trans h3⟩
/-- a word. -/
theorem word_new (w : World) (base g : Nat) (ws : List (List UInt8)) (bad : Bool) (h : Wri w base g ws bad) (t : List UInt8) (b : Nat) (hb : b = w.heap.size) (hl : ws.length + 1 ≤ 1000000) :
    Calls Tryz.prog 68 #[.pointer (some ⟨g, 0, none⟩), .slice (some ⟨b, 0, none⟩) 1 1] (w.alloc (.cells #[strV t] 9)) (WPut w base g (ws ++ [t]) bad) := by
  subst hb
  have hlt := h.lt
  refine (wput_ok _ base g ws bad (h.keep ((Below.refl w.heap.size w).alloc (Nat.le_refl _) _)) _ _ [t] (Sl.word w t) (by simp) (by simpa using hl)).mono ?_
  rintro e w' ⟨he, h1, h2, h3⟩
  exact ⟨he, h1, (((Lib.OthersKept.refl 9 (some g) w).alloc _).trans h2), ((Below.refl base w).alloc (by omega) _).trans h3⟩

set_option maxRecDepth 100000 in
set_option maxHeartbeats 1000000 in
theorem wrect_ok (w : World) (base g : Nat) (ws : List (List UInt8)) (bad : Bool) (h : Wri w base g ws bad) (x0 y0 x1 y1 : Int) (hl : ws.length ≤ 900000) :
    Calls Tryz.prog 103 #[.pointer (some ⟨g, 0, none⟩), boxV x0 y0 x1 y1] w (WPut w base g (ws ++ nsW [x0, y0, x1, y1]) (bad || nsB [x0, y0, x1, y1])) := by
  have hlt := h.lt
  have hbw : base ≤ w.heap.size := by omega
  have HH := Lib.hid (h.keep ((Below.refl w.heap.size w).alloc (Nat.le_refl _) (.cells #[.int .i64 x0, .int .i64 y0, .int .i64 x1, .int .i64 y1] 54)))
  have hW := Lib.hid ((Below.refl base w).alloc hbw (.cells #[.int .i64 x0, .int .i64 y0, .int .i64 x1, .int .i64 y1] 54))
  have hO := Lib.hid ((Lib.OthersKept.refl 9 (some g) w).alloc (.cells #[.int .i64 x0, .int .i64 y0, .int .i64 x1, .int .i64 y1] 54))
  clear h
  go_enter Tryz.func103, Tryz.ntmps103
  go_wp2_with fail
  refine (numbers_new _ base g ws bad HH.out [x0, y0, x1, y1] _ rfl _ _ (by simp) rfl (by simp; omega)).mono ?_
  rintro e w1 ⟨rfl, h1, h2, h3⟩
  have H1 := Lib.hid h1
  have H2 := Lib.hid (hO.out.trans h2)
  have H3 := Lib.hid (hW.out.trans h3)
  clear h1 h2 h3
  go_wp2
  refine bodyPost_ret (results_none rfl _ _ _) rfl ?_
  exact ⟨rfl, H1.out, H2.out, H3.out⟩

/-- The words of operations, of statuses. -/
def opsL : List (List UInt8) := [[101, 110, 114, 111, 108], [100, 105, 115, 109, 105, 115, 115], [112, 111, 108, 105, 99, 121], [109, 105, 110, 116], [97, 116, 116, 101, 110, 117, 97, 116, 101], [114, 101, 118, 111, 107, 101], [112, 114, 111, 102, 105, 108, 101], [114, 101, 112, 111, 114, 116], [114, 101, 109, 111, 118, 101], [112, 117, 98, 108, 105, 115, 104], [119, 105, 116, 104, 100, 114, 97, 119], [119, 104, 101, 114, 101], [119, 105, 110, 100, 111, 119], [110, 101, 97, 114], [99, 108, 111, 97, 107, 115], [110, 101, 97, 114, 99, 108, 111, 97, 107, 115], [116, 114, 97, 105, 108], [100, 114, 97, 105, 110], [113, 117, 111, 116, 97]]
def stsL : List (List UInt8) := [[111, 107], [98, 97, 100], [111, 118, 101, 114], [117, 110, 107, 110, 111, 119, 110], [113, 117, 111, 116, 97], [108, 97, 116, 101], [100, 101, 110, 105, 101, 100], [97, 114, 103], [110, 111, 110, 101], [102, 117, 108, 108], [99, 108, 97, 115, 104], [117, 110, 97, 118, 97, 105, 108, 97, 98, 108, 101], [112, 111, 108, 105, 99, 121]]
def wordsC (l : List (List UInt8)) : Array Value := (l.map strV).toArray
theorem words_flat (l : List (List UInt8)) : (wordsC l).toList = l.flatMap stC := by
  unfold wordsC
  induction l with
  | nil => rfl
  | cons a l ih => simp [stC] at ih ⊢; exact ih
def TabPost (w : World) (l : List (List UInt8)) (e : Ending) (w' : World) : Prop := e = .returned (.slice (some ⟨w.heap.size, 0, none⟩) l.length l.length) ∧ w' = w.alloc (.cells (wordsC l) 9)
theorem ops_ok (w : World) : Calls Tryz.prog 62 #[] w (TabPost w opsL) := by
  go_enter Tryz.func62, Tryz.ntmps62
  go_wp2
  go_ret
  exact ⟨rfl, rfl⟩
theorem statuses_ok (w : World) : Calls Tryz.prog 210 #[] w (TabPost w stsL) := by
  go_enter Tryz.func210, Tryz.ntmps210
  go_wp2
  go_ret
  exact ⟨rfl, rfl⟩
theorem words_cell (w : World) (l : List (List UInt8)) (i : Nat) (h : i < l.length) : (w.alloc (.cells (wordsC l) 9)).cell? ⟨w.heap.size, i, none⟩ = some (strV l[i]) := by
  rw [(Blk.new w 9 (wordsC l)).cell]
  unfold wordsC
  simp [h]
/-- An operation's word, a status's. -/
def opW (op : Int) : List UInt8 := if 1 ≤ op ∧ op ≤ 19 then opsL.getD (op - 1).toNat [] else []
def stW (st : Int) : List UInt8 := if 0 ≤ st ∧ st ≤ 12 then stsL.getD st.toNat [] else []

set_option maxRecDepth 100000 in
theorem Op_ok (op : Int) (w : World) : Calls Tryz.prog 69 #[.int .i64 op] w (SPost w (opW op)) := by
  by_cases h : 1 ≤ op ∧ op ≤ 19
  · obtain ⟨n, hn⟩ : ∃ n : Nat, op = (n : Int) + 1 := ⟨(op - 1).toNat, by omega⟩
    subst hn
    have hn : n < opsL.length := by show n < 19; omega
    have he : opW ((n : Int) + 1) = opsL[n] := by
      unfold opW
      rw [if_pos h, show ((n : Int) + 1 - 1).toNat = n by omega, List.getD_eq_getElem?_getD, List.getElem?_eq_getElem hn]
      rfl
    rw [he]
    have h1 : (1 : Int) ≤ (n : Int) + 1 := by omega
    have h2 : (n : Int) + 1 ≤ 19 := by omega
    have h3 : (n : Int) < 19 := by omega
    have hc := fun w : World => words_cell w opsL n hn
    clear h he
    go_enter Tryz.func69, Tryz.ntmps69
    go_wp2_with (go_at_call 62; refine (ops_ok w).mono ?_; rintro e w' ⟨rfl, rfl⟩)
    go_ret
    exact ⟨rfl, (Below.refl _ _).alloc (Nat.le_refl _) _⟩
  · have he : opW op = [] := by unfold opW; rw [if_neg h]
    rw [he]
    clear he
    by_cases h1 : op < 1
    · clear h
      go_enter Tryz.func69, Tryz.ntmps69
      go_wp2
      go_ret
      exact ⟨rfl, Below.refl _ _⟩
    · have h2 : 19 < op := by omega
      have h3 : 1 ≤ op := by omega
      clear h
      go_enter Tryz.func69, Tryz.ntmps69
      go_wp2
      go_ret
      exact ⟨rfl, Below.refl _ _⟩

set_option maxRecDepth 100000 in
theorem Status_ok (st : Int) (w : World) : Calls Tryz.prog 170 #[.int .i64 st] w (SPost w (stW st)) := by
  by_cases h : 0 ≤ st ∧ st ≤ 12
  · obtain ⟨n, hn⟩ : ∃ n : Nat, st = (n : Int) := ⟨st.toNat, by omega⟩
    subst hn
    have hn : n < stsL.length := by show n < 13; omega
    have he : stW (n : Int) = stsL[n] := by
      unfold stW
      rw [if_pos h, Int.toNat_natCast, List.getD_eq_getElem?_getD, List.getElem?_eq_getElem hn]
      rfl
    rw [he]
    have h1 : (0 : Int) ≤ (n : Int) := by omega
    have h2 : (n : Int) ≤ 12 := by omega
    have h3 : (n : Int) < 13 := by omega
    have hc := fun w : World => words_cell w stsL n hn
    clear h he
    go_enter Tryz.func170, Tryz.ntmps170
    go_wp2_with (go_at_call 210; refine (statuses_ok w).mono ?_; rintro e w' ⟨rfl, rfl⟩)
    go_ret
    exact ⟨rfl, (Below.refl _ _).alloc (Nat.le_refl _) _⟩
  · have he : stW st = [] := by unfold stW; rw [if_neg h]
    rw [he]
    clear he
    by_cases h1 : st < 0
    · clear h
      go_enter Tryz.func170, Tryz.ntmps170
      go_wp2
      go_ret
      exact ⟨rfl, Below.refl _ _⟩
    · have h2 : 12 < st := by omega
      have h3 : 0 ≤ st := by omega
      clear h
      go_enter Tryz.func170, Tryz.ntmps170
      go_wp2
      go_ret
      exact ⟨rfl, Below.refl _ _⟩
end Go.Proofs.YtldjgpnbkbmgoaaGreatDoor
