/-
  A request's line. Conditions: as each states.
-/
import Derived.Test.YtldjgpnbkbmgoaaGreatDoorFieldsW
import Derived.Test.YtldjgpnbkbmgoaaGreatDoorBack
namespace Go.Proofs.YtldjgpnbkbmgoaaGreatDoor
open Go.RowKit

theorem joinW_len (m : Nat) : ∀ (ws : List (List UInt8)), (∀ w ∈ ws, w.length ≤ m) → (joinW ws).length ≤ ws.length * (m + 1)
  | [], _ => by simp [joinW, Lib.join_nil]
  | [w], h => by
    have := h w (by simp)
    unfold joinW
    rw [Lib.join_one]
    simp
    omega
  | x :: y :: r, h => by
    have h1 := h x (by simp)
    have h2 := joinW_len m (y :: r) (fun w hw => h w (by simp [hw]))
    rw [joinW_cons]
    simp only [List.length_append, List.length_cons] at h2 ⊢
    rw [Nat.add_mul (r.length + 1) 1]
    omega
theorem txt_len (n : Nat) : (txt n).length ≤ 20 := txtF_len 19 n
theorem quo_len (l : List UInt8) : (quo l).length ≤ 3 * l.length + 1 := by
  have e : ∀ m : List UInt8, (m.flatMap qb).length ≤ 3 * m.length := fun m => by
    induction m with
    | nil => simp
    | cons a m ih =>
      have := (qb_len a).2
      simp only [List.flatMap_cons, List.length_append, List.length_cons]
      omega
  unfold quo
  split
  · simp
  · have := e l
    omega
def Few (n m : Nat) (ws : List (List UInt8)) : Prop := ws.length ≤ n ∧ ∀ w ∈ ws, w.length ≤ m
theorem Few.ns {n m : Nat} (ns : List Int) (h : ns.length ≤ n) (hm : 20 ≤ m) : Few n m (nsW ns) := ⟨by simpa [nsW] using h, fun w hw => by
  obtain ⟨x, _, rfl⟩ := List.mem_map.1 hw
  have := txt_len (u64n x)
  omega⟩
theorem Few.one {m : Nat} (w : List UInt8) (h : w.length ≤ m) : Few 1 m [w] := ⟨by simp, fun x hx => by
  simp only [List.mem_cons, List.not_mem_nil, or_false] at hx
  subst hx
  exact h⟩
theorem Few.app {a b n m : Nat} {x y : List (List UInt8)} (h : Few a m x) (k : Few b m y) (e : a + b ≤ n) : Few n m (x ++ y) := ⟨by have := h.1; have := k.1; simp; omega, fun w hw => by
  rcases List.mem_append.1 hw with hw | hw
  · exact h.2 w hw
  · exact k.2 w hw⟩
theorem Few.more {a n m : Nat} {x : List (List UInt8)} (h : Few a m x) (e : a ≤ n) : Few n m x := ⟨Nat.le_trans h.1 e, h.2⟩
theorem ite_W {p : List (List UInt8) → Prop} {c : Prop} [Decidable c] {a b : List (List UInt8)} (h1 : p a) (h2 : p b) : p (if c then a else b) := by
  split
  · exact h1
  · exact h2
theorem fields_few (q : Req) (m : Nat) (hm : 20 ≤ m) (ht : 3 * q.txt.length + 1 ≤ m) : Few 7 m (fieldsW q) := by
  unfold fieldsW
  refine ite_W (p := Few 7 m) (.ns _ (by simp) hm) ?_
  refine ite_W (p := Few 7 m) (.ns _ (by simp) hm) ?_
  refine ite_W (p := Few 7 m) ((Few.one _ (Nat.le_trans (quo_len _) ht)).more (by omega)) ?_
  refine ite_W (p := Few 7 m) (.ns _ (by simp) hm) ?_
  refine ite_W (p := Few 7 m) (Few.app (a := 6) (b := 1) (Few.app (a := 2) (b := 4) (.ns _ (by simp) hm) (.ns _ (by simp) hm) (by omega)) (.ns _ (by simp) hm) (by omega)) ?_
  refine ite_W (p := Few 7 m) ((Few.one _ (by unfold hexT; rw [hexF_len]; omega)).more (by omega)) ?_
  refine ite_W (p := Few 7 m) (Few.app (a := 1) (b := 1) (.ns _ (by simp) hm) (Few.one _ (Nat.le_trans (txt_len _) hm)) (by omega)) ?_
  refine ite_W (p := Few 7 m) (.ns _ (by simp) hm) ?_
  refine ite_W (p := Few 7 m) (.ns _ (by simp) hm) ?_
  refine ite_W (p := Few 7 m) (.ns _ (by simp) hm) ?_
  refine ite_W (p := Few 7 m) (.ns _ (by simp) hm) ?_
  refine ite_W (p := Few 7 m) (.ns _ (by simp) hm) ?_
  refine ite_W (p := Few 7 m) (.ns _ (by simp) hm) ?_
  refine ite_W (p := Few 7 m) (.ns _ (by simp) hm) ?_
  exact ⟨by simp, by simp⟩

/-- The words of a request's line. -/
def headW (q : Req) : List (List UInt8) := nsW [q.tenant, q.user] ++ [hexT q.secret] ++ nsW [q.m] ++ [opW q.op]
def lineW (q : Req) : List (List UInt8) := headW q ++ fieldsW q
def lineQ (q : Req) : List UInt8 := joinW (lineW q)
theorem ops_few : ∀ w ∈ opsL, w.length ≤ 10 := by decide
theorem opW_len (op : Int) : (opW op).length ≤ 10 := by
  unfold opW
  split
  · rw [List.getD_eq_getElem?_getD]
    cases h : opsL[(op - 1).toNat]? with
    | none => simp
    | some w => exact ops_few w (List.mem_of_getElem? h)
  · simp
theorem line_few (q : Req) (m : Nat) (hm : 20 ≤ m) (ht : 3 * q.txt.length + 1 ≤ m) : Few 12 m (lineW q) := by
  unfold lineW headW
  refine Few.app (a := 5) (b := 7) ?_ (fields_few q m hm ht) (by omega)
  refine Few.app (a := 4) (b := 1) ?_ (Few.one _ (Nat.le_trans (opW_len _) (by omega))) (by omega)
  refine Few.app (a := 3) (b := 1) ?_ (.ns _ (by simp) hm) (by omega)
  exact Few.app (a := 2) (b := 1) (.ns _ (by simp) hm) (Few.one _ (by unfold hexT; rw [hexF_len]; omega)) (by omega)

theorem withR_tx (q : Req) (l : List Nat) (t : List UInt8) (hq : q.txt = []) : (withR q l t).txt = [] ∨ (withR q l t).txt = t := by
  unfold withR
  repeat' refine ite_R (p := fun z => z.txt = [] ∨ z.txt = t) ?_ ?_
  all_goals first | exact .inl hq | exact .inr rfl
theorem enc_op {q : Req} (h : encOk q = true) : isOp q.op = true ∧ q.txt.length ≤ 512 := by
  obtain ⟨hg, hq⟩ := enc_good h
  have e := bodyQ_op (encL q)
  rw [← hq] at e
  refine ⟨by rw [e]; exact hg.op, ?_⟩
  have hb : q = withR (headR (encL q)) (cutN ((encL q).drop 13) (widths (headR (encL q)).op)) (if (headR (encL q)).op = 3 then (encL q).drop 13 else []) := hq
  rcases withR_tx (headR (encL q)) (cutN ((encL q).drop 13) (widths (headR (encL q)).op)) (if (headR (encL q)).op = 3 then (encL q).drop 13 else []) rfl with h1 | h1
  · rw [hb, h1]
    simp
  · rw [hb, h1]
    have := hg.top
    split <;> simp
    omega

def lineT (q : Req) : List UInt8 := if encOk q = true then lineQ q else []
def lineE (q : Req) : Int := if encOk q = true then 0 else 1
def LPost (w : World) (q : Req) (e : Ending) (w' : World) : Prop := e = .returned (.tuple #[strV (lineT q), .int .i64 (lineE q)]) ∧ Below w.heap.size w w'

set_option maxRecDepth 100000 in
set_option maxHeartbeats 2000000 in
theorem Line_ok (q : Req) (w : World) (hq : q.fits) : Calls Tryz.prog 44 #[.agg (rqC q)] w (LPost w q) := by
  have hb1 := Blk.new w 60 (rqC q)
  have hW1 := (Below.refl w.heap.size w).alloc (Nat.le_refl _) (.cells (rqC q) 60)
  obtain ⟨w1, hst1⟩ : ∃ w1, w.alloc (.cells (rqC q) 60) = w1 := ⟨_, rfl⟩
  rw [hst1] at hb1 hW1
  have HB := Lib.hid hb1
  have HW := Lib.hid hW1
  have HQ := Lib.hid hq
  clear hb1 hW1 hq
  go_enter Tryz.func44, Tryz.ntmps44
  go_wp2_with (refine wpList_load_row rfl 60 (.tmp 1) rfl w.heap.size rfl 60 (rqC q) (0, 0) _ HB.out Tryz.underlying60 rfl (rq_size _) ?_)
  refine (Right_ok q w1 HQ.out).mono ?_
  rintro e w2 ⟨rfl, hb2⟩
  have HB2 := Lib.hid (HB.out.below hb2 HB.out.lt)
  have HW2 := Lib.hid (HW.out.trans (hb2.mono HW.out.size))
  clear hb2
  cases hok : encOk q
  · have hT : lineT q = [] := by unfold lineT; rw [hok]; rfl
    have hE : lineE q = 1 := by unfold lineE; rw [hok]; rfl
    have HT := Lib.hid hT
    have HE := Lib.hid hE
    clear hT hE hok
    go_wp2_with fail
    go_ret2
    exact ⟨by rw [HT.out, HE.out]; rfl, HW2.out⟩
  · have hT : lineT q = lineQ q := by unfold lineT; rw [if_pos hok]
    have hE : lineE q = 0 := by unfold lineE; rw [if_pos hok]
    obtain ⟨hop, htx⟩ := enc_op hok
    have HT := Lib.hid hT
    have HE := Lib.hid hE
    have HOP := Lib.hid hop
    have hs1 : q.secret < 18446744073709551616 := Nat.lt_of_lt_of_eq HQ.out.1.1 (by decide)
    have HS := Lib.hid hs1
    clear hT hE hok hop hs1
    have hwr := Wri.new w2 w2.heap.size (Nat.le_refl _)
    have hlt2 := HB2.out.lt
    have HB3 := Lib.hid (HB2.out.alloc (.cells #[.slice none 0 0, .bool false] 119))
    have HW3 := Lib.hid (HW2.out.alloc (by have := HW2.out.size; omega) (.cells #[.slice none 0 0, .bool false] 119))
    obtain ⟨w3, hst3⟩ : ∃ w3, w2.alloc (.cells #[.slice none 0 0, .bool false] 119) = w3 := ⟨_, rfl⟩
    rw [hst3] at hwr HB3 HW3
    obtain ⟨g, hg⟩ : ∃ g, g = w2.heap.size := ⟨_, rfl⟩
    have HG := Lib.hid hg
    rw [← hg] at hwr
    have hgw : w.heap.size ≠ g := by omega
    have hwg : w.heap.size ≤ g := by omega
    have HH := Lib.hid hwr
    have c1 := (show World.cell? _ ⟨w.heap.size, 1, none⟩ = some (.int .i64 q.tenant) from HB3.out.is 1 rfl)
    have c2 := (show World.cell? _ ⟨w.heap.size, 2, none⟩ = some (.int .i64 q.user) from HB3.out.is 2 rfl)
    have hg' := hg.symm
    clear hwr hlt2 hg
    go_wp2_with fail
    refine (numbers_new _ g g _ _ HH.out [q.tenant, q.user] _ rfl _ _ rfl rfl (by simp)).mono ?_
    rintro e w4 ⟨rfl, h1, h2, h3⟩
    have HH := Lib.hid h1
    have HB3 := Lib.hid (h2.blk HB3.out hgw (by decide))
    have HW3 := Lib.hid (HW3.out.trans (h3.mono hwg))
    clear h1 h2 h3 c1 c2
    have c3 := (show World.cell? _ ⟨w.heap.size, 3, none⟩ = some (.int .u64 (q.secret : Nat)) from HB3.out.is 3 rfl)
    go_wp2_with fail
    refine (hex_ok q.secret _ HS.out).mono ?_
    rintro e w5 ⟨rfl, h1⟩
    have hz5 := HW3.out.size
    have HW3 := Lib.hid (HW3.out.trans (h1.mono hz5))
    have HB3 := Lib.hid (HB3.out.below h1 HB3.out.lt)
    have HH := Lib.hid (HH.out.keep h1)
    clear h1 hz5
    go_wp2_with fail
    refine (word_new _ g g _ _ HH.out (hexT q.secret) _ rfl (by simp [nsW])).mono ?_
    rintro e w6 ⟨rfl, h1, h2, h3⟩
    have HH := Lib.hid h1
    have HB3 := Lib.hid (h2.blk HB3.out hgw (by decide))
    have HW3 := Lib.hid (HW3.out.trans (h3.mono hwg))
    clear h1 h2 h3 c3
    have c4 := (show World.cell? _ ⟨w.heap.size, 4, none⟩ = some (.int .i64 q.m) from HB3.out.is 4 rfl)
    go_wp2_with fail
    refine (numbers_new _ g g _ _ HH.out [q.m] _ rfl _ _ rfl rfl (by simp [nsW])).mono ?_
    rintro e w7 ⟨rfl, h1, h2, h3⟩
    have HH := Lib.hid h1
    have HB3 := Lib.hid (h2.blk HB3.out hgw (by decide))
    have HW3 := Lib.hid (HW3.out.trans (h3.mono hwg))
    clear h1 h2 h3 c4
    have c0 := (show World.cell? _ ⟨w.heap.size, 0, none⟩ = some (.int .i64 q.op) from HB3.out.is 0 rfl)
    go_wp2_with fail
    refine (Op_ok q.op _).mono ?_
    rintro e w8 ⟨rfl, h1⟩
    have hz8 := HW3.out.size
    have HW3 := Lib.hid (HW3.out.trans (h1.mono hz8))
    have HB3 := Lib.hid (HB3.out.below h1 HB3.out.lt)
    have HH := Lib.hid (HH.out.keep h1)
    clear h1 hz8
    go_wp2_with fail
    refine (word_new _ g g _ _ HH.out (opW q.op) _ rfl (by simp [nsW])).mono ?_
    rintro e w9 ⟨rfl, h1, h2, h3⟩
    have HH := Lib.hid h1
    have HB3 := Lib.hid (h2.blk HB3.out hgw (by decide))
    have HW3 := Lib.hid (HW3.out.trans (h3.mono hwg))
    clear h1 h2 h3 c0
    go_wp2_with (refine wpList_load_row rfl 60 (.tmp 1) rfl w.heap.size rfl 60 (rqC q) (0, 0) _ HB3.out Tryz.underlying60 rfl (rq_size _) ?_)
    refine (wfields_ok _ g g _ _ HH.out q HOP.out HQ.out.1 (by omega) (by simp [nsW])).mono ?_
    rintro e w10 ⟨bd, rfl, h1, h2, h3⟩
    have HH := Lib.hid h1
    have HW3 := Lib.hid (HW3.out.trans (h3.mono hwg))
    clear h1 h2 h3
    have hfew := line_few q 2000 (by omega) (by omega)
    have hjl := joinW_len 2000 _ hfew.2
    have hbound : (joinW (lineW q)).length ≤ 140737488355328 := Nat.le_trans hjl (by have := hfew.1; omega)
    have HH2 := Lib.hid (show Wri w10 g g (lineW q) bd from HH.out)
    have hn12 := Lib.hid hfew.1
    have HJ := Lib.hid hbound
    clear hfew hjl hbound
    go_wp2_with fail
    refine (line_ok w10 g g (lineW q) bd HH2.out (by have := hn12.out; omega) HJ.out).mono ?_
    rintro e w11 ⟨rfl, h1⟩
    have hz := HW3.out.size
    have HW4 := Lib.hid (HW3.out.trans (h1.mono hz))
    clear h1 hz
    go_wp2_with fail
    go_ret2
    exact ⟨by rw [HT.out, HE.out]; rfl, HW4.out⟩
end Go.Proofs.YtldjgpnbkbmgoaaGreatDoor
