/-
  A request opened, with the bounds of its numbers. Conditions: none. The reference's Bytes. Conditions: as each states. WireEncodes holds: for any request: the law returns true, and its argument reads as it did. Conditions: none.
-/
import Derived.Test.YtldjgpnbkbmgoaaGreatDoorPP1
import Derived.Test.YtldjgpnbkbmgoaaGreatDoorPP2
import Derived.Deep.DeepCutAuto
set_option linter.unusedSimpArgs false
set_option linter.unusedVariables false
set_option maxRecDepth 100000
set_option maxHeartbeats 8000000
namespace Go.Proofs.YtldjgpnbkbmgoaaGreatDoor
open Go.RowKit Go.ChangeShapes Go.WideShapes
section
variable {H : Type} {enc : TypeId × Value → H} {w : World} {base : Nat} {spare : Nat → Bool} {held : Bool}
theorem i64_of {n : Int} (h : (Lit.int .i64 n).wf = true) : n < 9223372036854775808 := by
  simp only [Lit.wf, Bool.and_eq_true, decide_eq_true_eq] at h
  have e2 : IntKind.i64.max = 9223372036854775807 := rfl
  omega
end
end Go.Proofs.YtldjgpnbkbmgoaaGreatDoor

namespace Go.Proofs.YtldjgpnbkbmgoaaGreatDoor
open Go.RowKit Go.Lib
attribute [local go_sem ↓] load_req stop_req
def YPost (w : World) (ok : Bool) (l0 : List UInt8) (e : Ending) (w' : World) : Prop := ∃ v l, e = .returned (.tuple #[v, .bool ok]) ∧ Sl byC w' w'.heap.size v l ∧ (ok = true → l = l0) ∧ Below w.heap.size w w'
def YPost2 (w : World) (ok : Bool) (l0 : List UInt8) (e : Ending) (w' : World) : Prop := ∃ v l, e = .returned (.tuple #[v, .bool ok]) ∧ Sl byC w' w'.heap.size v l ∧ (ok = true → l = l0) ∧ Below w.heap.size w w' ∧ ∀ g, v.ownBlock = some g → w.heap.size ≤ g
theorem YPost2.weak {w : World} {ok : Bool} {l0 : List UInt8} {e : Ending} {w' : World} (h : YPost2 w ok l0 e w') : YPost w ok l0 e w' :=
  let ⟨v, l, h1, h2, h3, h4, _⟩ := h; ⟨v, l, h1, h2, h3, h4⟩
theorem rbytes_no2 (q : Req) (w : World) (h : isOp q.op = false ∨ (isOp q.op = true ∧ 64 < q.m) ∨ (isOp q.op = true ∧ q.m ≤ 64 ∧ 512 < q.txt.length)) : Calls Tryz.prog 45 #[.agg (rqC q)] w (YPost2 w false (rbL q)) := by
  have hr := rthere_ok q.op
  have HW := Lib.hid ((Below.refl w.heap.size w).alloc (Nat.le_refl _) (.cells (rqC q) 60))
  have hts := str_size q.txt
  obtain ⟨t, ht⟩ : ∃ t, q.txt.length = t := ⟨_, rfl⟩
  rw [ht] at h hts
  clear ht
  rcases h with h | ⟨h, hm⟩ | ⟨h, hm, ht⟩
  all_goals
    rw [h] at hr
    have HR := Lib.hid hr
    clear h hr
  · go_enter Tryz.func45, Tryz.ntmps45
    go_wp2_with fail
    refine (HR.out _).mono ?_
    rintro e w' ⟨rfl, hw'⟩
    rw [hw']
    clear hw' w'
    go_wp2_with fail
    go_ret2
    exact ⟨_, [], rfl, Sl.nil, (fun e => by cases e), HW.out, (fun g hg => by cases hg)⟩
  · go_enter Tryz.func45, Tryz.ntmps45
    go_wp2_with fail
    refine (HR.out _).mono ?_
    rintro e w' ⟨rfl, hw'⟩
    rw [hw']
    clear hw' w'
    go_wp2_with fail
    go_ret2
    exact ⟨_, [], rfl, Sl.nil, (fun e => by cases e), HW.out, (fun g hg => by cases hg)⟩
  · have hm' : ¬ 64 < q.m := by omega
    have ht' : (512 : Int) < (t : Int) := by omega
    go_enter Tryz.func45, Tryz.ntmps45
    go_wp2_with fail
    refine (HR.out _).mono ?_
    rintro e w' ⟨rfl, hw'⟩
    rw [hw']
    clear hw' w'
    go_wp2_with fail
    go_ret2
    exact ⟨_, [], rfl, Sl.nil, (fun e => by cases e), HW.out, (fun g hg => by cases hg)⟩
structure YS (w w3 wx : World) (q : Req) (v : Value) (l : List UInt8) : Prop where
  own : Own byC 1 5 wx w3.heap.size v l
  gr : w3.grownBy wx none
theorem YS.blk {w w3 wx : World} {q : Req} {v : Value} {l : List UInt8} (h : YS w w3 wx q v l) {g : Nat} {t : TypeId} {cs : Array Value} (hb : Blk w3 g t cs) : Blk wx g t cs := hb.grown h.gr (by simp)
theorem YS.put {w w3 wx wy : World} {q : Req} {v v2 : Value} {l l2 : List UInt8} (h : YS w w3 wx q v l) (hg : wx.grownBy wy v.ownBlock) (ho : Own byC 1 5 wy w3.heap.size v2 l2) : YS w w3 wy q v2 l2 :=
  ⟨ho, grown_then h.gr hg (by
    cases hb : v.ownBlock with
    | none => exact .inl rfl
    | some g => exact .inr ⟨g, rfl, (h.own.lt g hb).1⟩)⟩
theorem YS.drew {w w3 wx : World} {q : Req} {v : Value} {l : List UInt8} (h : YS w w3 wx q v l) : YS w w3 wx.drew q v l := ⟨h.own, ⟨h.gr.os, h.gr.tape, h.gr.output, h.gr.size, h.gr.block⟩⟩
theorem YS.below {w w3 wx wy : World} {q : Req} {v : Value} {l : List UInt8} (h : YS w w3 wx q v l) (hb : Below wx.heap.size wx wy) : YS w w3 wy q v l :=
  ⟨h.own.keep fun b hv => hb.block b (h.own.lt b hv).2, grown_then h.gr (grown_of_below hb none) (.inl rfl)⟩
structure YL (w w3 wx : World) (q : Req) (v : Value) (l : List UInt8) (gl : Nat) (L : List UInt8) : Prop where
  ys : YS w w3 wx q v l
  lay : Lay wx gl 0 (L.flatMap byC)
  lt : gl < wx.heap.size
  ne : v.ownBlock ≠ some gl
theorem YL.step {w w3 wr w6 : World} {q : Req} {v : Value} {cur l2 L : List UInt8} {gl g' n cap' : Nat} (o : Obj) (h : YL w w3 wr q v cur gl L) (hown : Own byC 1 5 w6 w3.heap.size (.slice (some ⟨g', 0, none⟩) n cap') l2) (hgrow : (wr.alloc o).grownBy w6 v.ownBlock)
    (hat : v.ownBlock = some g' ∨ g' = (wr.alloc o).heap.size) : YL w w3 w6 q (.slice (some ⟨g', 0, none⟩) n cap') l2 gl L := by
  have h1 : YS w w3 (wr.alloc o) q v cur := h.ys.below ((Below.refl wr.heap.size wr).alloc (Nat.le_refl _) o)
  have hz : (wr.alloc o).heap.size = wr.heap.size + 1 := by simp
  have hl := h.lt
  refine ⟨h1.put hgrow hown, (h.lay.of_heap (Below.heap_alloc wr o gl h.lt)).of_heap (hgrow.block gl (by omega) (fun e => h.ne e.symm)), Nat.lt_of_lt_of_le (by omega) hgrow.size, ?_⟩
  intro e
  simp only [Value.ownBlock, Option.some.injEq] at e
  rcases hat with h2 | h2
  · exact h.ne (h2.trans (by rw [e]))
  · omega
theorem YS.with_ {w w3 wx wy : World} {q : Req} {v : Value} {l L : List UInt8} {gl : Nat} (h : YS w w3 wx q v l) (hb : Below wx.heap.size wx wy) (hlay : Lay wy gl 0 (L.flatMap byC)) (hlt : gl < wy.heap.size) (hge : wx.heap.size ≤ gl) : YL w w3 wy q v l gl L :=
  ⟨h.below hb, hlay, hlt, fun e => by have := (h.own.lt gl e).2; omega⟩
theorem rput8_ok (n : Nat) (w : World) (h : n < 256 ^ 8) : Calls Tryz.prog 74 #[.int .u64 n, .int .i64 8] w (fun e w' => ∃ g cap, e = .returned (.tuple #[.slice (some ⟨g, 0, none⟩) 8 cap, .bool true]) ∧ 8 ≤ cap ∧ cap ≤ maxLen ∧ w.heap.size ≤ g ∧ g < w'.heap.size ∧ Lay w' g 0 ((toBE 8 n).flatMap byC) ∧ Below w.heap.size w w') := by
  refine (rput_ok 7 n w (by decide) (by have : (256 : Nat) ^ 8 = 18446744073709551616 := by decide
                                        omega)).mono ?_
  rintro e w' ⟨v, rfl, ho, hb⟩
  obtain ⟨g, cap, rfl, h1, h2, h3, h4, h5⟩ := ho.block_of (by rw [toBE_len]; omega)
  rw [toBE_len] at h3
  exact ⟨g, cap, by rw [decide_eq_true h, toBE_len], h3, h4, h1, h2, h5, hb⟩
structure YV (w w3 wx : World) (q : Req) (v : Value) (l : List UInt8) (gv : Nat) (vs : List Int) (gf : Nat) (fs : List Nat) : Prop where
  ys : YS w w3 wx q v l
  layv : Lay wx gv 0 (vs.flatMap izC)
  ltv : gv < wx.heap.size
  nev : v.ownBlock ≠ some gv
  layf : Lay wx gf 0 (fs.flatMap inC)
  ltf : gf < wx.heap.size
  nef : v.ownBlock ≠ some gf
theorem kin_ne {wx : World} {v v2 : Value} {g : Nat} (h : Kin wx v v2) (hg : g < wx.heap.size) (hne : v.ownBlock ≠ some g) : v2.ownBlock ≠ some g := by
  rcases h with h | ⟨g2, h, h2⟩
  · rw [h]; exact hne
  · rw [h]
    intro e
    injection e with e
    omega
theorem YV.drew {w w3 wx : World} {q : Req} {v : Value} {l : List UInt8} {gv gf : Nat} {vs : List Int} {fs : List Nat} (h : YV w w3 wx q v l gv vs gf fs) : YV w w3 wx.drew q v l gv vs gf fs := ⟨h.ys.drew, h.layv, h.ltv, h.nev, h.layf, h.ltf, h.nef⟩
theorem YV.put {w w3 wx wy : World} {q : Req} {v v2 : Value} {l l2 : List UInt8} {gv gf : Nat} {vs : List Int} {fs : List Nat} (h : YV w w3 wx q v l gv vs gf fs) (hg : wx.grownBy wy v.ownBlock) (ho : Own byC 1 5 wy w3.heap.size v2 l2) (hk : Kin wx v v2) : YV w w3 wy q v2 l2 gv vs gf fs :=
  ⟨h.ys.put hg ho, h.layv.of_heap (hg.block gv h.ltv fun e => h.nev e.symm), Nat.lt_of_lt_of_le h.ltv hg.size, kin_ne hk h.ltv h.nev, h.layf.of_heap (hg.block gf h.ltf fun e => h.nef e.symm), Nat.lt_of_lt_of_le h.ltf hg.size, kin_ne hk h.ltf h.nef⟩
theorem ite_L {p : List Int → Prop} {c : Prop} [Decidable c] {a b : List Int} (h1 : p a) (h2 : p b) : p (if c then a else b) := by
  split
  · exact h1
  · exact h2
theorem vals_ib {q : Req} (h : q.ib) : ∀ x ∈ valsR q, x < 9223372036854775808 := by
  unfold Req.ib at h
  simp only [List.mem_cons, List.not_mem_nil, or_false, forall_eq_or_imp, forall_eq] at h
  unfold valsR
  repeat' refine ite_L (p := fun l => ∀ x ∈ l, x < 9223372036854775808) ?_ ?_
  all_goals
    simp only [List.mem_cons, List.not_mem_nil, or_false, forall_eq_or_imp, forall_eq, false_imp_iff, implies_true]
    try simp only [h, and_self]
theorem vals_len {q : Req} (h : isOp q.op = true) : (valsR q).length ≤ (widths q.op).length ∧ (valsR q).length ≤ 7 := by
  unfold valsR widths
  rcases isOp_cases h with e | e | e | e | e | e | e | e | e | e | e | e | e | e | e | e | e | e | e <;> simp [e]
theorem str_at {t : List UInt8} {i : Nat} {x : UInt8} (w : World) (h : i < t.length) (hx : t[i] = x) : (Instr.index 9 (strV t) (.int .i64 (i : Int))).run Tryz.prog w = .ok (.int .u8 (x.toNat : Int)) w := by
  subst hx
  have hs := str_size t
  rw [run_index_string (P := Tryz.prog) (w := w) 9 _ .i64 _ Tryz.underlying9, dif_pos ⟨by omega, by rw [hs]; omega⟩]
  rfl
theorem aheadP_at (q : Req) (hib : q.op < 9223372036854775808 ∧ q.tenant < 9223372036854775808 ∧ q.user < 9223372036854775808 ∧ q.m < 9223372036854775808) (i : Nat) (h : i < 3) : ∃ n : Int, ∃ k : Nat, (aheadP q)[i]? = some (n, k) ∧ (#[.int .i64 q.op, .int .i64 q.tenant, .int .i64 q.user] : Array Value)[i]? = some (.int .i64 n) ∧ (#[.int .i64 1, .int .i64 1, .int .i64 2] : Array Value)[i]? = some (.int .i64 (k : Int)) ∧ 1 ≤ k ∧ k ≤ 8 ∧ n < 9223372036854775808 := by
  match i, h with
  | 0, _ => exact ⟨q.op, 1, rfl, rfl, rfl, by decide, by decide, hib.1⟩
  | 1, _ => exact ⟨q.tenant, 1, rfl, rfl, rfl, by decide, by decide, hib.2.1⟩
  | 2, _ => exact ⟨q.user, 2, rfl, rfl, rfl, by decide, by decide, hib.2.2.1⟩
theorem take_snoc_get {α : Type} {l : List α} {i : Nat} {x : α} (h : l[i]? = some x) : l.take (i + 1) = l.take i ++ [x] := by
  obtain ⟨hl, rfl⟩ := List.getElem?_eq_some_iff.1 h
  exact List.take_succ_eq_append_getElem hl
theorem rbytes_go2 (q : Req) (w : World) (hq : q.fits) (hib : q.ib) (hop : isOp q.op = true) (hm : q.m ≤ 64) (htx : q.txt.length ≤ 512) : Calls Tryz.prog 45 #[.agg (rqC q)] w (YPost2 w (rbOk q) (rbL q)) := by
  have hr := rthere_ok q.op
  rw [hop] at hr
  have HR := Lib.hid hr
  have HOP := Lib.hid hop
  have HIB := Lib.hid hib
  have HQ := Lib.hid hq
  have HTX := Lib.hid htx
  have hb1 := Blk.new w 60 (rqC q)
  have hW1 := (Below.refl w.heap.size w).alloc (Nat.le_refl _) (.cells (rqC q) 60)
  have hz1 : (w.alloc (.cells (rqC q) 60)).heap.size = w.heap.size + 1 := by simp
  obtain ⟨w1, hst1⟩ : ∃ w1, w.alloc (.cells (rqC q) 60) = w1 := ⟨_, rfl⟩
  rw [hst1] at hb1 hW1 hz1
  have ha2 := Blk.new w1 3 #[.int .i64 q.op, .int .i64 q.tenant, .int .i64 q.user]
  have hz2 : (w1.alloc (.cells #[.int .i64 q.op, .int .i64 q.tenant, .int .i64 q.user] 3)).heap.size = w.heap.size + 1 + 1 := by simp [hz1]
  rw [hz1] at ha2
  have hb2 := hb1.alloc (.cells #[.int .i64 q.op, .int .i64 q.tenant, .int .i64 q.user] 3)
  have hW2 := hW1.alloc (by omega) (.cells #[.int .i64 q.op, .int .i64 q.tenant, .int .i64 q.user] 3)
  obtain ⟨w2, hst2⟩ : ∃ w2, w1.alloc (.cells #[.int .i64 q.op, .int .i64 q.tenant, .int .i64 q.user] 3) = w2 := ⟨_, rfl⟩
  rw [hst2] at ha2 hb2 hW2 hz2
  have hv3 := Blk.new w2 3 #[.int .i64 1, .int .i64 1, .int .i64 2]
  have hz3 : (w2.alloc (.cells #[.int .i64 1, .int .i64 1, .int .i64 2] 3)).heap.size = w.heap.size + 1 + 1 + 1 := by simp [hz2]
  rw [hz2] at hv3
  have hb3 := hb2.alloc (.cells #[.int .i64 1, .int .i64 1, .int .i64 2] 3)
  have ha3 := ha2.alloc (.cells #[.int .i64 1, .int .i64 1, .int .i64 2] 3)
  have hW3 := hW2.alloc (by omega) (.cells #[.int .i64 1, .int .i64 1, .int .i64 2] 3)
  obtain ⟨w3, hst3⟩ : ∃ w3, w2.alloc (.cells #[.int .i64 1, .int .i64 1, .int .i64 2] 3) = w3 := ⟨_, rfl⟩
  rw [hst3] at ha3 hb3 hv3 hW3 hz3
  have HB := Lib.hid hb3
  have HA := Lib.hid ha3
  have HV := Lib.hid hv3
  have HW := Lib.hid hW3
  have c1_0 : w1.cell? ⟨w.heap.size, 0, none⟩ = some (.int .i64 q.op) := hb1.is 0 rfl
  have c1_1 : w1.cell? ⟨w.heap.size, 1, none⟩ = some (.int .i64 q.tenant) := hb1.is 1 rfl
  have c1_2 : w1.cell? ⟨w.heap.size, 2, none⟩ = some (.int .i64 q.user) := hb1.is 2 rfl
  have c1_4 : w1.cell? ⟨w.heap.size, 4, none⟩ = some (.int .i64 q.m) := hb1.is 4 rfl
  have c1_9 : w1.cell? ⟨w.heap.size, 9, none⟩ = some (strV q.txt) := hb1.is 9 rfl
  have hts := str_size q.txt
  obtain ⟨t, ht⟩ : ∃ t, q.txt.length = t := ⟨_, rfl⟩
  rw [ht] at hts htx
  have HT := Lib.hid ht
  have hmm : ¬ 64 < q.m := by omega
  have htt : ¬ (512 : Int) < (t : Int) := by omega
  have HI := Lib.hid (And.intro (hib q.op (by simp)) (And.intro (hib q.tenant (by simp)) (And.intro (hib q.user (by simp)) (hib q.m (by simp)))))
  clear hb1 hW1 ha2 hb2 hW2 ha3 hb3 hv3 hW3 hib hq hr hop ht hm
  go_enter Tryz.func45, Tryz.ntmps45
  go_wp2_with fail
  refine (HR.out _).mono ?_
  rintro e w' ⟨rfl, hw'⟩
  rw [hw']
  clear hw' w'
  go_wp2_with fail
  have HZ3 := Lib.hid hz3
  clear c1_0 c1_1 c1_2 c1_4 c1_9 hst1 hst2 hst3 hz1 hz2
  go_loopw [4, 8, 9] (fun bv fv iv wr => ∃ i : Nat, i ≤ 3 ∧ iv = .int .i64 i ∧ fv = .bool (pFs ([], true) ((aheadP q).take i)).2 ∧ YS w w3 wr q bv (pFs ([], true) ((aheadP q).take i)).1) (fun _ _ iv _ => (3 - RowKit.intOf iv).toNat)
  case atStart => exact ⟨0, by omega, rfl, rfl, ⟨Own.nil, grown_refl _ _⟩⟩
  case round =>
    obtain ⟨i, hi, rfl, rfl, hy⟩ := hrel
    by_cases hlt : i < 3
    · obtain ⟨n, k, hx, hxa, hxw, hk1, hk8, hn⟩ := aheadP_at q HI.out i hlt
      have hsn := pFs_snoc ([], true) ((aheadP q).take i) (n, k)
      rw [← take_snoc_get hx] at hsn
      have hlen := pFs_len ((aheadP q).take i) ([], true) (fun y hy => by
        have := List.mem_of_mem_take hy
        simp only [aheadP, List.mem_cons, List.not_mem_nil, or_false] at this
        rcases this with rfl | rfl | rfl <;> simp)
      obtain ⟨p, hp⟩ : ∃ p, pFs ([], true) ((aheadP q).take i) = p := ⟨_, rfl⟩
      rw [hp] at hsn hlen hy ⊢
      obtain ⟨cur, f⟩ := p
      have hcl : cur.length ≤ 100000 := by have := List.length_take_le i (aheadP q); simp at hlen; omega
      have HSN := Lib.hid hsn
      have HY := Lib.hid hy.drew
      have x0 : wr.drew.cell? ⟨w.heap.size + 1, i, none⟩ = some (.int .i64 n) := (hy.drew.blk HA.out).is i hxa
      have y0 : wr.drew.cell? ⟨w.heap.size + 1 + 1, i, none⟩ = some (.int .i64 (k : Int)) := (hy.drew.blk HV.out).is i hxw
      have hsz := hy.drew.gr.size
      obtain ⟨A0, c0, rfl⟩ := hy.own.form
      have HCL := Lib.hid hcl
      have HSZ := Lib.hid hsz
      clear hx hxa hxw hsn hlen hp hy hcl hsz
      cases f
      all_goals
        go_wp2_with fail
        go_region_with ((with_reducible refine (rputs_ok cur _ n k _ w3.heap.size HY.out.own HSZ.out hk1 hk8 hn HCL.out).mono ?_); rintro e w6 ⟨v6, rfl, ho6, hg6, hk6⟩; have HY6 := Lib.hid (HY.out.put hg6 ho6); clear ho6 hg6 hk6)
        all_goals
          go_wp2_with fail
          go_roundw
          case rel => exact ⟨i + 1, by omega, by go_num, by rw [HSN.out]; simp [pF], by rw [HSN.out]; exact HY6.out⟩
          case measure => simp [RowKit.intOf]; omega
    · obtain rfl : i = 3 := by omega
      have hA3 : pFs ([], true) ((aheadP q).take 3) = rbA q := rfl
      rw [hA3] at hy ⊢
      have hcl : (rbA q).1.length ≤ 24 := by
        have h := pFs_len (aheadP q) ([], true) (fun y hy => by
          simp only [aheadP, List.mem_cons, List.not_mem_nil, or_false] at hy
          rcases hy with rfl | rfl | rfl <;> simp)
        exact h
      have HPA := Lib.hid (show rbB q = pF ((rbA q).1 ++ toBE 8 q.secret, (rbA q).2) (q.m, 1) from rfl)
      generalize rbA q = p at *
      obtain ⟨la, fa⟩ := p
      have HY := Lib.hid hy
      have HCL := Lib.hid (show la.length ≤ 24 from hcl)
      have c3 : wr.cell? ⟨w.heap.size, 3, none⟩ = some (.int .u64 (q.secret : Nat)) := (hy.blk HB.out).is 3 rfl
      obtain ⟨A0, cp0, rfl⟩ := hy.own.form
      clear hy hcl hA3
      go_wp2_with fail
      refine (rput8_ok q.secret wr HQ.out.1.1).mono ?_
      rintro e w4 ⟨gl, cl, rfl, hc8, hcm, hgl, hglt, hlay, hb4⟩
      have HL := Lib.hid (HY.out.with_ hb4 hlay hglt hgl)
      have hLL := toBE_len 8 q.secret
      generalize toBE 8 q.secret = L at *
      have HLL := Lib.hid hLL
      unfold maxLen at hcm
      clear hlay hb4 c3 hLL
      go_wp2_with fail
      go_loopw [4, 12] (fun bv iv wz => ∃ i : Nat, i ≤ 8 ∧ iv = .int .i64 i ∧ YL w w3 wz q bv (la ++ L.take i) gl L) (fun _ iv _ => (8 - RowKit.intOf iv).toNat)
      case atStart => exact ⟨0, Nat.zero_le _, rfl, by simpa using HL.out⟩
      case round =>
        obtain ⟨i, hi, rfl, hy⟩ := hrel
        by_cases hlt : i < 8
        · have hiL : i < L.length := by rw [HLL.out]; exact hlt
          have x0 := (hy.lay.elem byC_len i hiL).by
          rw [Nat.mul_one, Nat.zero_add] at x0
          have hts := Lib.hid (List.take_succ_eq_append_getElem hiL)
          obtain ⟨x, hx⟩ : ∃ x, L[i] = x := ⟨_, rfl⟩
          rw [hx] at x0 hts
          obtain ⟨A2, c2, rfl⟩ := hy.ys.own.form
          have hln : (la ++ L.take i).length ≤ 32 := by have := HCL.out; simp; omega
          obtain ⟨cur, hcur⟩ : ∃ cur, la ++ L.take i = cur := ⟨_, rfl⟩
          rw [hcur] at hy hln ⊢
          have HCUR := Lib.hid hcur
          have HY2 := Lib.hid hy
          have HLN := Lib.hid hln
          have HOA := Lib.hid (hy.ys.own.alloc (.cells #[.int .u8 (x.toNat : Int)] 5))
          have HBL := Lib.hid (Blk.new wr 5 #[.int .u8 (x.toNat : Int)]).lay
          have hz : w3.heap.size ≤ (wr.alloc (.cells #[.int .u8 (x.toNat : Int)] 5)).heap.size := by have := hy.ys.gr.size; simp; omega
          clear hy hx hcur hln
          go_wp2_with (at_builtin; refine app_one by_elem by_enc rfl (.tmp 75) (.tmp 80) rfl rfl HOA.out x wr.heap.size 1 rfl HBL.out (by have := HLN.out; unfold maxLen; omega) (by have := HLN.out; omega) hz ?_; intro g' cap' w6 hown2 hgrow hat hlt2; have HY6 := Lib.hid (HY2.out.step _ hown2 hgrow hat); clear hown2 hgrow hat)
          go_roundw
          case rel => exact ⟨i + 1, by omega, by go_num, by rw [hts.out, ← List.append_assoc, HCUR.out]; exact HY6.out⟩
          case measure => simp [RowKit.intOf]; omega
        · obtain rfl : i = 8 := by omega
          have hLX : L.take 8 = L := by rw [← HLL.out, List.take_length]
          rw [hLX] at hy
          have HPB := Lib.hid HPA.out
          have HY := Lib.hid hy.ys
          have c4 : wr.cell? ⟨w.heap.size, 4, none⟩ = some (.int .i64 q.m) := (hy.ys.blk HB.out).is 4 rfl
          obtain ⟨A3, c3, rfl⟩ := hy.ys.own.form
          have hcul : (la ++ L).length ≤ 32 := by have h1 := HCL.out; have h2 := HLL.out; simp; omega
          obtain ⟨cur, hcur⟩ : ∃ cur, la ++ L = cur := ⟨_, rfl⟩
          rw [hcur] at HY hcul HPB ⊢
          have hcu : cur.length ≤ 100000 := by omega
          have HCUL := Lib.hid hcul
          clear hcul
          have hsz := HY.out.gr.size
          have HSZ := Lib.hid hsz
          have HCU := Lib.hid hcu
          clear hy hLX hcur hcu hsz
          go_wp2_with fail
          refine (rputs_ok cur _ q.m 1 wr w3.heap.size HY.out.own HSZ.out (by decide) (by decide) HI.out.2.2.2 HCU.out).mono ?_
          rintro e w6 ⟨v6, rfl, ho6, hg6, hk6⟩
          have HY6 := Lib.hid (HY.out.put hg6 ho6)
          have HPB2 := Lib.hid (show rbB q = (putL cur q.m 1, fa && putB q.m 1) from HPB.out)
          have hlb : (putL cur q.m 1).length ≤ 40 := by have h1 := putL_len cur q.m 1; have h2 := HCUL.out; omega
          clear ho6 hg6 hk6
          obtain ⟨f6, hf6⟩ : ∃ f, (fa && putB q.m 1) = f := ⟨_, rfl⟩
          obtain ⟨l6, hl6⟩ : ∃ l, putL cur q.m 1 = l := ⟨_, rfl⟩
          rw [hf6, hl6] at HPB2
          rw [hl6] at HY6 hlb
          have HF6 := Lib.hid hf6
          have HLB := Lib.hid hlb
          have HL6 := Lib.hid hl6
          clear hf6 hl6
          go_upto_region 19 with fail
          go_cut [8] (fun fv wx => fv = .bool f6 ∧ w6 = wx)
          case first =>
            go_wp2_with fail
            all_goals
              go_meet
              exact ⟨by rw [← HF6.out]; simp [*], rfl⟩
          case rest =>
          obtain ⟨rfl, rfl⟩ := hcut
          go_wp2_with (refine wpList_load_row rfl 60 (.tmp 1) rfl w.heap.size rfl 60 (rqC q) (0, 0) _ (HY6.out.blk HB.out) Tryz.underlying60 rfl (rq_size _) ?_)
          refine (vals_ok q HOP.out w6).mono ?_
          rintro e w7 ⟨v7, rfl, ⟨gv, rfl, hgv, hgv2, hlv⟩, hb7⟩
          have HY7 := Lib.hid (HY6.out.below hb7)
          have c0 : w7.cell? ⟨w.heap.size, 0, none⟩ = some (.int .i64 q.op) := (HY7.out.blk HB.out).is 0 rfl
          go_wp2_with fail
          refine (rfieldsN_ok q.op HOP.out w7).mono ?_
          rintro e w8 ⟨v8, rfl, ⟨gf, rfl, hgf, hgf2, hlf⟩, hb8⟩
          have HY8 := Lib.hid (show YV w w3 w8 q v6 l6 gv (valsR q) gf (widths q.op) from ⟨HY7.out.below hb8, hlv.below hb8 hgv2, Nat.lt_of_lt_of_le hgv2 hb8.size, fun e => by have := (HY6.out.own.lt gv e).2; omega, hlf, hgf2, fun e => by have := (HY7.out.own.lt gf e).2; omega⟩)
          have hvl := vals_len HOP.out
          have HVI := Lib.hid (vals_ib HIB.out)
          have HWI := Lib.hid (@widths_le q.op)
          have HRC := Lib.hid (show rbC q = pFs (rbB q) ((valsR q).zip (widths q.op)) from rfl)
          rw [HPB2.out] at HRC
          obtain ⟨vs, hvs⟩ : ∃ l, valsR q = l := ⟨_, rfl⟩
          obtain ⟨fs, hfs⟩ : ∃ l, widths q.op = l := ⟨_, rfl⟩
          rw [hvs, hfs] at HY8 hvl HRC
          rw [hvs] at HVI ⊢
          rw [hfs] at HWI ⊢
          have HVS := Lib.hid hvs
          have HFS := Lib.hid hfs
          have hvl1 := hvl.1
          have hvl2 := hvl.2
          clear hvl hvs hfs hlv hlf hb7 hb8 hgv hgv2 hgf hgf2 c0 c4
          go_wp2_with fail
          go_loopw [4, 8, 15] (fun bv fv iv wr => ∃ i : Nat, i ≤ vs.length ∧ iv = .int .i64 i ∧ fv = .bool (pFs (l6, f6) ((vs.zip fs).take i)).2 ∧ YV w w3 wr q bv (pFs (l6, f6) ((vs.zip fs).take i)).1 gv vs gf fs) (fun _ _ iv _ => (vs.length - RowKit.intOf iv).toNat)
          case atStart => exact ⟨0, Nat.zero_le _, rfl, by rw [← HF6.out]; rfl, HY8.out⟩
          case round =>
            obtain ⟨i, hi, rfl, rfl, hy⟩ := hrel
            have hzl : (vs.zip fs).length = vs.length := by rw [List.length_zip]; omega
            by_cases hlt : i < vs.length
            · have hif : i < fs.length := by omega
              have hx : (vs.zip fs)[i]? = some (vs[i], fs[i]) := by rw [List.getElem?_eq_getElem (by omega), List.getElem_zip]
              have hxv := (hy.layv.elem izC_len i hlt).iz
              have hxf := (hy.layf.elem inC_len i hif).inn
              rw [Nat.mul_one, Nat.zero_add] at hxv hxf
              have hn := HVI.out _ (List.getElem_mem hlt)
              have hk := HWI.out _ (List.getElem_mem hif)
              have hsn := pFs_snoc (l6, f6) ((vs.zip fs).take i) (vs[i], fs[i])
              rw [← take_snoc_get hx] at hsn
              have hlen := pFs_len ((vs.zip fs).take i) (l6, f6) (fun y hy2 => by
                have h1 := List.mem_of_mem_take hy2
                exact (HWI.out _ (List.of_mem_zip h1).2).2)
              obtain ⟨n, hnn⟩ : ∃ n, vs[i] = n := ⟨_, rfl⟩
              obtain ⟨k, hkk⟩ : ∃ k, fs[i] = k := ⟨_, rfl⟩
              rw [hnn] at hxv hn hsn
              rw [hkk] at hxf hk hsn
              obtain ⟨p, hp⟩ : ∃ p, pFs (l6, f6) ((vs.zip fs).take i) = p := ⟨_, rfl⟩
              rw [hp] at hsn hlen hy ⊢
              obtain ⟨cur2, f⟩ := p
              have hcl2 : cur2.length ≤ 100000 := by have := List.length_take_le i (vs.zip fs); have h2 := HLB.out; simp only at hlen; omega
              have HSN := Lib.hid hsn
              have HY := Lib.hid hy.drew
              have x0 : wr.drew.cell? ⟨gv, i, none⟩ = some (.int .i64 n) := hxv
              have y0 : wr.drew.cell? ⟨gf, i, none⟩ = some (.int .i64 (k : Int)) := hxf
              have hsz := hy.drew.ys.gr.size
              obtain ⟨A4, c5, rfl⟩ := hy.ys.own.form
              have HCL2 := Lib.hid hcl2
              have HSZ := Lib.hid hsz
              obtain ⟨hk1, hk8⟩ := hk
              have HFL := Lib.hid hvl1
              clear hx hxv hxf hsn hlen hp hy hcl2 hsz hnn hkk hzl
              cases f
              all_goals
                go_wp2_with fail
                go_region_with ((with_reducible refine (rputs_ok cur2 _ n k _ w3.heap.size HY.out.ys.own HSZ.out hk1 hk8 hn HCL2.out).mono ?_); rintro e w9 ⟨v9, rfl, ho9, hg9, hk9⟩; have HY9 := Lib.hid (HY.out.put hg9 ho9 hk9); clear ho9 hg9 hk9)
                all_goals
                  go_wp2_with fail
                  go_roundw
                  case rel => exact ⟨i + 1, by omega, by go_num, by rw [HSN.out]; simp [pF], by rw [HSN.out]; exact HY9.out⟩
                  case measure => simp [RowKit.intOf]; omega
            · obtain rfl : i = vs.length := by omega
              rw [← hzl, List.take_length] at hy ⊢
              rw [← HRC.out] at hy ⊢
              rw [hzl]
              have HYC := Lib.hid hy.ys
              have hlen3 := pFs_len (vs.zip fs) (l6, f6) (fun y hy2 => (HWI.out _ (List.of_mem_zip hy2).2).2)
              rw [← HRC.out, hzl] at hlen3
              have hlc : (rbC q).1.length ≤ 100 := by have h2 := HLB.out; simp only at hlen3; omega
              obtain ⟨p, hp⟩ : ∃ p, rbC q = p := ⟨_, rfl⟩
              rw [hp] at HYC hlc ⊢
              obtain ⟨lc, fc⟩ := p
              have HPC := Lib.hid hp
              have HLC := Lib.hid (show lc.length ≤ 100 from hlc)
              have HM64 := Lib.hid (show q.m ≤ 64 by omega)
              have HVL := Lib.hid (And.intro hvl1 hvl2)
              have c0 : wr.cell? ⟨w.heap.size, 0, none⟩ = some (.int .i64 q.op) := (HYC.out.blk HB.out).is 0 rfl
              have c9 : wr.cell? ⟨w.heap.size, 9, none⟩ = some (strV q.txt) := (HYC.out.blk HB.out).is 9 rfl
              have c17 : wr.cell? ⟨w.heap.size, 17, none⟩ = some (.int .u64 (q.other : Nat)) := (HYC.out.blk HB.out).is 17 rfl
              have c19 : wr.cell? ⟨w.heap.size, 19, none⟩ = some (.int .u64 (q.area : Nat)) := (HYC.out.blk HB.out).is 19 rfl
              clear hy hlen3 hlc hp hzl hlt hi hvl1 hvl2
              by_cases h6 : q.op = 6
              · have b6 : (q.op == 6) = true := by simp [h6]
                have b3 : (q.op == 3) = false := by rw [h6]; rfl
                have HE6 := Lib.hid (show rbL q = lc ++ toBE 8 q.other by unfold rbL rbD rbLong; rw [HPC.out]; simp [h6])
                clear h6
                go_wp2_with fail
                refine (rput8_ok q.other wr HQ.out.1.2.1).mono ?_
                rintro e wa ⟨gl2, cl2, rfl, hc82, hcm2, hgl2, hglt2, hlay2, hb2⟩
                have HL2 := Lib.hid (HYC.out.with_ hb2 hlay2 hglt2 hgl2)
                have hLL2 := toBE_len 8 q.other
                obtain ⟨L2, hL2⟩ : ∃ L2, toBE 8 q.other = L2 := ⟨_, rfl⟩
                rw [hL2] at HL2 hLL2
                have HL2E := Lib.hid hL2
                have HLL2 := Lib.hid hLL2
                unfold maxLen at hcm2
                clear hlay2 hb2 hLL2 hL2
                go_wp2_with fail
                go_loopw [4, 17] (fun bv iv wr => ∃ i : Nat, i ≤ 8 ∧ iv = .int .i64 i ∧ YL w w3 wr q bv (lc ++ L2.take i) gl2 L2) (fun _ iv _ => (8 - RowKit.intOf iv).toNat)
                case atStart => exact ⟨0, Nat.zero_le _, rfl, by simpa using HL2.out⟩
                case round =>
                  obtain ⟨i, hi, rfl, hy⟩ := hrel
                  have c0r : wr.cell? ⟨w.heap.size, 0, none⟩ = some (.int .i64 q.op) := (hy.ys.blk HB.out).is 0 rfl
                  by_cases hlt : i < 8
                  · have hiL : i < L2.length := by rw [HLL2.out]; exact hlt
                    have x0 := (hy.lay.elem byC_len i hiL).by
                    rw [Nat.mul_one, Nat.zero_add] at x0
                    have hts := Lib.hid (List.take_succ_eq_append_getElem hiL)
                    obtain ⟨x, hx⟩ : ∃ x, L2[i] = x := ⟨_, rfl⟩
                    rw [hx] at x0 hts
                    obtain ⟨A2, c2, rfl⟩ := hy.ys.own.form
                    have hln : (lc ++ L2.take i).length ≤ 200 := by have := HLC.out; simp; omega
                    obtain ⟨cur3, hcur⟩ : ∃ cur, lc ++ L2.take i = cur := ⟨_, rfl⟩
                    rw [hcur] at hy hln ⊢
                    have HCUR := Lib.hid hcur
                    have HY2 := Lib.hid hy
                    have HLN := Lib.hid hln
                    have HOA := Lib.hid (hy.ys.own.alloc (.cells #[.int .u8 (x.toNat : Int)] 5))
                    have HBL := Lib.hid (Blk.new wr 5 #[.int .u8 (x.toNat : Int)]).lay
                    have hz : w3.heap.size ≤ (wr.alloc (.cells #[.int .u8 (x.toNat : Int)] 5)).heap.size := by have := hy.ys.gr.size; simp; omega
                    clear hy hx hcur hln
                    go_wp2_with (at_builtin; refine app_one by_elem by_enc rfl (.tmp 148) (.tmp 153) rfl rfl HOA.out x wr.heap.size 1 rfl HBL.out (by have := HLN.out; unfold maxLen; omega) (by have := HLN.out; omega) hz ?_; intro g' cap' w6 hown2 hgrow hat hlt2; have HY6 := Lib.hid (HY2.out.step _ hown2 hgrow hat); clear hown2 hgrow hat)
                    go_roundw
                    case rel => exact ⟨i + 1, by omega, by go_num, by rw [hts.out, ← List.append_assoc, HCUR.out]; exact HY6.out⟩
                    case measure => simp [RowKit.intOf]; omega
                  · obtain rfl : i = 8 := by omega
                    have hLX : L2.take 8 = L2 := by rw [← HLL2.out, List.take_length]
                    rw [hLX] at hy
                    have c9r : wr.cell? ⟨w.heap.size, 9, none⟩ = some (strV q.txt) := (hy.ys.blk HB.out).is 9 rfl
                    have HYE := Lib.hid hy.ys
                    obtain ⟨lE, hlE⟩ : ∃ l, lc ++ L2 = l := ⟨_, rfl⟩
                    rw [hlE] at HYE
                    have HLE := Lib.hid hlE
                    clear hy hLX hlE
                    obtain ⟨AE, cE, rfl⟩ := HYE.out.own.form
                    go_wp2_with fail
                    go_loopw [4, 18] (fun bv iv wx => bv = .slice AE lE.length cE ∧ iv = .int .i64 0 ∧ wr = wx) (fun _ _ _ => 0)
                    case atStart => exact ⟨rfl, rfl, rfl⟩
                    case round =>
                      obtain ⟨rfl, rfl, rfl⟩ := hrel
                      by_cases ht0 : 0 < t
                      all_goals
                        have HEL := Lib.hid (show rbL q = lE from by rw [HE6.out, HL2E.out, HLE.out])
                        have HOK := Lib.hid (show rbOk q = (fc && (reqEq (rdec lE).1 q && decide ((rdec lE).2 = 0))) by
                          unfold rbOk
                          rw [HEL.out, HOP.out, HPC.out, decide_eq_true HM64.out, decide_eq_true HTX.out]
                          simp)
                        have HWE := Lib.hid (HW.out.trans (below_of_grown HYE.out.gr (by rw [HZ3.out]; omega) (fun g hg => by cases hg)))
                        have HRQ := Lib.hid (HYE.out.blk HB.out)
                        cases fc
                        · go_wp2_with fail
                          go_ret2
                          exact ⟨_, [], by rw [HOK.out]; rfl, Sl.nil, fun e => (by rw [HOK.out] at e; simp at e), HWE.out, fun g hg => (by cases hg)⟩
                        · have hdummy := trivial
                          have hsl := HYE.out.own.sl
                          go_wp2_with fail
                          refine (rdecode_ok lE _ wr hsl).mono ?_
                          rintro e wd ⟨rfl, hWd⟩
                          have HSL := Lib.hid ((hsl.below hWd).more hWd.size)
                          have HWd := Lib.hid (HWE.out.trans (hWd.mono HWE.out.size))
                          have HRd := Lib.hid (HRQ.out.below hWd HRQ.out.lt)
                          obtain ⟨d, hd⟩ : ∃ d, rdec lE = d := ⟨_, rfl⟩
                          rw [hd] at HOK ⊢
                          have HN6 := Lib.hid (Blk.new wd 60 zeroC)
                          have HR6 := Lib.hid (HRd.out.alloc (.cells zeroC 60))
                          have HW6 := Lib.hid (HWd.out.alloc HWd.out.size (.cells zeroC 60))
                          have HS6 := Lib.hid (HSL.out.below ((Below.refl wd.heap.size wd).alloc (Nat.le_refl _) (.cells zeroC 60)))
                          clear hsl hWd hd
                          obtain ⟨w6', hst6⟩ : ∃ x, wd.alloc (.cells zeroC 60) = x := ⟨_, rfl⟩
                          rw [hst6] at HN6 HR6 HW6 HS6
                          have hlt1 := Lib.hid HRd.out.lt
                          have HR7 := Lib.hid (HR6.out.farRow (b := wd.heap.size) (by have := hlt1.out; omega) (rqC d.1))
                          have HN7 := Lib.hid (HN6.out.row (rqC d.1))
                          have HW7 := Lib.hid (below_setRow HW6.out (g := wd.heap.size) (by have := HWd.out.size; omega) (rqC d.1))
                          have HS7 := Lib.hid (HS6.out.keep (w' := w6'.setRow wd.heap.size (rqC d.1)) fun b hb => setRow_other w6' wd.heap.size b _ (by omega))
                          obtain ⟨w7', hst7⟩ : ∃ x, w6'.setRow wd.heap.size (rqC d.1) = x := ⟨_, rfl⟩
                          rw [hst7] at HR7 HN7 HW7 HS7
                          have l5 := loadReq_row (show Blk w7'.drew wd.heap.size 60 (rqC d.1) from HN7.out)
                          have l1 := loadReq_row (show Blk w7'.drew w.heap.size 60 (rqC q) from HR7.out)
                          have HW8 := Lib.hid (below_drew HW7.out)
                          have HS8 := Lib.hid (show Sl byC w7'.drew w7'.drew.heap.size (.slice AE (lE).length cE) (lE) from HS7.out.more (by rw [← hst7, ← hst6]; simp))
                          have hd2 : ∃ b, (d.2 == 0) = b := ⟨_, rfl⟩
                          obtain ⟨b, hb⟩ := hd2
                          have HDB := Lib.hid (show decide (d.2 = 0) = b by rw [← hb]; rfl)
                          cases b
                          all_goals
                            go_wp2_with (refine wpList_store_row rfl 60 (.tmp 19) (.tmp 179) rfl wd.heap.size (rqC d.1) rfl rfl 60 zeroC HN6.out (rq_size _) rfl (rq_one _) ?_)
                            refine still_all (by kernel_rfl) (by kernel_rfl) ?_
                            generalize w7'.drew = w8' at *
                            repeat still_step
                            refine wpStill_nil ?_
                            go_wp2_with fail
                            go_ret2
                            rw [HDB.out] at HOK
                            refine ⟨_, lE, ?_, HS8.out, fun _ => HEL.out.symm, HW8.out, fun g hg => Nat.le_trans HW.out.size (HYE.out.own.lt g hg).1⟩
                            rw [HOK.out]
                            simp
              by_cases h7 : q.op = 7
              · have b6 : (q.op == 6) = false := by rw [h7]; rfl
                have b7 : (q.op == 7) = true := by simp [h7]
                have b3 : (q.op == 3) = false := by rw [h7]; rfl
                have HE6 := Lib.hid (show rbL q = lc ++ toBE 8 q.area by unfold rbL rbD rbLong; rw [HPC.out]; simp [h7])
                clear h7 h6
                go_wp2_with fail
                refine (rput8_ok q.area wr HQ.out.1.2.2).mono ?_
                rintro e wa ⟨gl2, cl2, rfl, hc82, hcm2, hgl2, hglt2, hlay2, hb2⟩
                have HL2 := Lib.hid (HYC.out.with_ hb2 hlay2 hglt2 hgl2)
                have hLL2 := toBE_len 8 q.area
                obtain ⟨L2, hL2⟩ : ∃ L2, toBE 8 q.area = L2 := ⟨_, rfl⟩
                rw [hL2] at HL2 hLL2
                have HL2E := Lib.hid hL2
                have HLL2 := Lib.hid hLL2
                unfold maxLen at hcm2
                clear hlay2 hb2 hLL2 hL2
                go_wp2_with fail
                go_loopw [4, 17] (fun bv iv wr => ∃ i : Nat, i ≤ 8 ∧ iv = .int .i64 i ∧ YL w w3 wr q bv (lc ++ L2.take i) gl2 L2) (fun _ iv _ => (8 - RowKit.intOf iv).toNat)
                case atStart => exact ⟨0, Nat.zero_le _, rfl, by simpa using HL2.out⟩
                case round =>
                  obtain ⟨i, hi, rfl, hy⟩ := hrel
                  have c0r : wr.cell? ⟨w.heap.size, 0, none⟩ = some (.int .i64 q.op) := (hy.ys.blk HB.out).is 0 rfl
                  by_cases hlt : i < 8
                  · have hiL : i < L2.length := by rw [HLL2.out]; exact hlt
                    have x0 := (hy.lay.elem byC_len i hiL).by
                    rw [Nat.mul_one, Nat.zero_add] at x0
                    have hts := Lib.hid (List.take_succ_eq_append_getElem hiL)
                    obtain ⟨x, hx⟩ : ∃ x, L2[i] = x := ⟨_, rfl⟩
                    rw [hx] at x0 hts
                    obtain ⟨A2, c2, rfl⟩ := hy.ys.own.form
                    have hln : (lc ++ L2.take i).length ≤ 200 := by have := HLC.out; simp; omega
                    obtain ⟨cur3, hcur⟩ : ∃ cur, lc ++ L2.take i = cur := ⟨_, rfl⟩
                    rw [hcur] at hy hln ⊢
                    have HCUR := Lib.hid hcur
                    have HY2 := Lib.hid hy
                    have HLN := Lib.hid hln
                    have HOA := Lib.hid (hy.ys.own.alloc (.cells #[.int .u8 (x.toNat : Int)] 5))
                    have HBL := Lib.hid (Blk.new wr 5 #[.int .u8 (x.toNat : Int)]).lay
                    have hz : w3.heap.size ≤ (wr.alloc (.cells #[.int .u8 (x.toNat : Int)] 5)).heap.size := by have := hy.ys.gr.size; simp; omega
                    clear hy hx hcur hln
                    go_wp2_with (at_builtin; refine app_one by_elem by_enc rfl (.tmp 148) (.tmp 153) rfl rfl HOA.out x wr.heap.size 1 rfl HBL.out (by have := HLN.out; unfold maxLen; omega) (by have := HLN.out; omega) hz ?_; intro g' cap' w6 hown2 hgrow hat hlt2; have HY6 := Lib.hid (HY2.out.step _ hown2 hgrow hat); clear hown2 hgrow hat)
                    go_roundw
                    case rel => exact ⟨i + 1, by omega, by go_num, by rw [hts.out, ← List.append_assoc, HCUR.out]; exact HY6.out⟩
                    case measure => simp [RowKit.intOf]; omega
                  · obtain rfl : i = 8 := by omega
                    have hLX : L2.take 8 = L2 := by rw [← HLL2.out, List.take_length]
                    rw [hLX] at hy
                    have c9r : wr.cell? ⟨w.heap.size, 9, none⟩ = some (strV q.txt) := (hy.ys.blk HB.out).is 9 rfl
                    have HYE := Lib.hid hy.ys
                    obtain ⟨lE, hlE⟩ : ∃ l, lc ++ L2 = l := ⟨_, rfl⟩
                    rw [hlE] at HYE
                    have HLE := Lib.hid hlE
                    clear hy hLX hlE
                    obtain ⟨AE, cE, rfl⟩ := HYE.out.own.form
                    go_wp2_with fail
                    go_loopw [4, 18] (fun bv iv wx => bv = .slice AE lE.length cE ∧ iv = .int .i64 0 ∧ wr = wx) (fun _ _ _ => 0)
                    case atStart => exact ⟨rfl, rfl, rfl⟩
                    case round =>
                      obtain ⟨rfl, rfl, rfl⟩ := hrel
                      by_cases ht0 : 0 < t
                      all_goals
                        have HEL := Lib.hid (show rbL q = lE from by rw [HE6.out, HL2E.out, HLE.out])
                        have HOK := Lib.hid (show rbOk q = (fc && (reqEq (rdec lE).1 q && decide ((rdec lE).2 = 0))) by
                          unfold rbOk
                          rw [HEL.out, HOP.out, HPC.out, decide_eq_true HM64.out, decide_eq_true HTX.out]
                          simp)
                        have HWE := Lib.hid (HW.out.trans (below_of_grown HYE.out.gr (by rw [HZ3.out]; omega) (fun g hg => by cases hg)))
                        have HRQ := Lib.hid (HYE.out.blk HB.out)
                        cases fc
                        · go_wp2_with fail
                          go_ret2
                          exact ⟨_, [], by rw [HOK.out]; rfl, Sl.nil, fun e => (by rw [HOK.out] at e; simp at e), HWE.out, fun g hg => (by cases hg)⟩
                        · have hdummy := trivial
                          have hsl := HYE.out.own.sl
                          go_wp2_with fail
                          refine (rdecode_ok lE _ wr hsl).mono ?_
                          rintro e wd ⟨rfl, hWd⟩
                          have HSL := Lib.hid ((hsl.below hWd).more hWd.size)
                          have HWd := Lib.hid (HWE.out.trans (hWd.mono HWE.out.size))
                          have HRd := Lib.hid (HRQ.out.below hWd HRQ.out.lt)
                          obtain ⟨d, hd⟩ : ∃ d, rdec lE = d := ⟨_, rfl⟩
                          rw [hd] at HOK ⊢
                          have HN6 := Lib.hid (Blk.new wd 60 zeroC)
                          have HR6 := Lib.hid (HRd.out.alloc (.cells zeroC 60))
                          have HW6 := Lib.hid (HWd.out.alloc HWd.out.size (.cells zeroC 60))
                          have HS6 := Lib.hid (HSL.out.below ((Below.refl wd.heap.size wd).alloc (Nat.le_refl _) (.cells zeroC 60)))
                          clear hsl hWd hd
                          obtain ⟨w6', hst6⟩ : ∃ x, wd.alloc (.cells zeroC 60) = x := ⟨_, rfl⟩
                          rw [hst6] at HN6 HR6 HW6 HS6
                          have hlt1 := Lib.hid HRd.out.lt
                          have HR7 := Lib.hid (HR6.out.farRow (b := wd.heap.size) (by have := hlt1.out; omega) (rqC d.1))
                          have HN7 := Lib.hid (HN6.out.row (rqC d.1))
                          have HW7 := Lib.hid (below_setRow HW6.out (g := wd.heap.size) (by have := HWd.out.size; omega) (rqC d.1))
                          have HS7 := Lib.hid (HS6.out.keep (w' := w6'.setRow wd.heap.size (rqC d.1)) fun b hb => setRow_other w6' wd.heap.size b _ (by omega))
                          obtain ⟨w7', hst7⟩ : ∃ x, w6'.setRow wd.heap.size (rqC d.1) = x := ⟨_, rfl⟩
                          rw [hst7] at HR7 HN7 HW7 HS7
                          have l5 := loadReq_row (show Blk w7'.drew wd.heap.size 60 (rqC d.1) from HN7.out)
                          have l1 := loadReq_row (show Blk w7'.drew w.heap.size 60 (rqC q) from HR7.out)
                          have HW8 := Lib.hid (below_drew HW7.out)
                          have HS8 := Lib.hid (show Sl byC w7'.drew w7'.drew.heap.size (.slice AE (lE).length cE) (lE) from HS7.out.more (by rw [← hst7, ← hst6]; simp))
                          have hd2 : ∃ b, (d.2 == 0) = b := ⟨_, rfl⟩
                          obtain ⟨b, hb⟩ := hd2
                          have HDB := Lib.hid (show decide (d.2 = 0) = b by rw [← hb]; rfl)
                          cases b
                          all_goals
                            go_wp2_with (refine wpList_store_row rfl 60 (.tmp 19) (.tmp 179) rfl wd.heap.size (rqC d.1) rfl rfl 60 zeroC HN6.out (rq_size _) rfl (rq_one _) ?_)
                            refine still_all (by kernel_rfl) (by kernel_rfl) ?_
                            generalize w7'.drew = w8' at *
                            repeat still_step
                            refine wpStill_nil ?_
                            go_wp2_with fail
                            go_ret2
                            rw [HDB.out] at HOK
                            refine ⟨_, lE, ?_, HS8.out, fun _ => HEL.out.symm, HW8.out, fun g hg => Nat.le_trans HW.out.size (HYE.out.own.lt g hg).1⟩
                            rw [HOK.out]
                            simp
              have b6 : (q.op == 6) = false := by rw [beq_eq_false_iff_ne]; exact h6
              have b7 : (q.op == 7) = false := by rw [beq_eq_false_iff_ne]; exact h7
              have HE6 := Lib.hid (show rbL q = lc ++ (if q.op = 3 then q.txt else []) by unfold rbL rbD; rw [HPC.out]; simp [h6, h7])
              clear h6 h7
              go_wp2_with fail
              refine (rput8_ok q.area wr HQ.out.1.2.2).mono ?_
              rintro e wa ⟨gl2, cl2, rfl, hc82, hcm2, hgl2, hglt2, hlay2, hb2⟩
              have HYA := Lib.hid (HYC.out.below hb2)
              have c0a : wa.cell? ⟨w.heap.size, 0, none⟩ = some (.int .i64 q.op) := (HYA.out.blk HB.out).is 0 rfl
              have c9a : wa.cell? ⟨w.heap.size, 9, none⟩ = some (strV q.txt) := (HYA.out.blk HB.out).is 9 rfl
              unfold maxLen at hcm2
              clear hlay2 hb2
              obtain ⟨AF, cF, hAF⟩ := HYA.out.own.form
              subst hAF
              go_wp2_with fail
              go_loopw [4, 17] (fun bv iv wx => bv = .slice AF lc.length cF ∧ iv = .int .i64 0 ∧ wa = wx) (fun _ _ _ => 0)
              case atStart => exact ⟨rfl, rfl, rfl⟩
              case round =>
                obtain ⟨rfl, rfl, rfl⟩ := hrel
                by_cases h3 : q.op = 3
                · have b3 : (q.op == 3) = true := by simp [h3]
                  have HE3 := Lib.hid (show rbL q = lc ++ q.txt by rw [HE6.out, if_pos h3])
                  clear h3
                  go_wp2_with fail
                  go_loopw [4, 18] (fun bv iv wr => ∃ i : Nat, i ≤ t ∧ iv = .int .i64 i ∧ YS w w3 wr q bv (lc ++ q.txt.take i)) (fun _ iv _ => (t - RowKit.intOf iv).toNat)
                  case atStart => exact ⟨0, Nat.zero_le _, rfl, by simpa using HYA.out⟩
                  case round =>
                    obtain ⟨i, hi, rfl, hy⟩ := hrel
                    have c0r : wr.cell? ⟨w.heap.size, 0, none⟩ = some (.int .i64 q.op) := (hy.blk HB.out).is 0 rfl
                    have c9r : wr.cell? ⟨w.heap.size, 9, none⟩ = some (strV q.txt) := (hy.blk HB.out).is 9 rfl
                    by_cases hlt : i < t
                    · have hiT : i < q.txt.length := by rw [HT.out]; exact hlt
                      obtain ⟨x, hx⟩ : ∃ x, q.txt[i] = x := ⟨_, rfl⟩
                      have hidx : ∀ w, (Instr.index 9 (strV q.txt) (.int .i64 (i : Int))).run Tryz.prog w = .ok (.int .u8 (x.toNat : Int)) w := fun w => str_at w hiT hx
                      have hts5 := Lib.hid (show q.txt.take (i + 1) = q.txt.take i ++ [x] by rw [List.take_succ_eq_append_getElem hiT, hx])
                      obtain ⟨A2, c2, rfl⟩ := hy.own.form
                      have hln : (lc ++ q.txt.take i).length ≤ 700 := by have h1 := HLC.out; have h2 := HTX.out; simp; omega
                      obtain ⟨cur3, hcur⟩ : ∃ cur, lc ++ q.txt.take i = cur := ⟨_, rfl⟩
                      rw [hcur] at hy hln ⊢
                      have HCUR := Lib.hid hcur
                      have HY2 := Lib.hid hy
                      have HLN := Lib.hid hln
                      have HOA := Lib.hid (hy.own.alloc (.cells #[.int .u8 (x.toNat : Int)] 5))
                      have HBL := Lib.hid (Blk.new wr 5 #[.int .u8 (x.toNat : Int)]).lay
                      have hz : w3.heap.size ≤ (wr.alloc (.cells #[.int .u8 (x.toNat : Int)] 5)).heap.size := by have := hy.gr.size; simp; omega
                      clear hy hx hcur hln hiT
                      go_wp2_with (at_builtin; refine app_one by_elem by_enc rfl (.tmp 167) (.tmp 172) rfl rfl HOA.out x wr.heap.size 1 rfl HBL.out (by have := HLN.out; unfold maxLen; omega) (by have := HLN.out; omega) hz ?_; intro g' cap' w6 hown2 hgrow hat hlt2; have HY6 := Lib.hid ((HY2.out.below ((Below.refl wr.heap.size wr).alloc (Nat.le_refl _) (.cells #[.int .u8 (x.toNat : Int)] 5))).put hgrow hown2); clear hown2 hgrow hat)
                      go_roundw
                      case rel => exact ⟨i + 1, by omega, by go_num, by rw [hts5.out, ← List.append_assoc, HCUR.out]; exact HY6.out⟩
                      case measure => simp [RowKit.intOf]; omega
                    · obtain rfl : i = t := by omega
                      have hTX : q.txt.take i = q.txt := by rw [← HT.out, List.take_length]
                      rw [hTX] at hy
                      have HYE := Lib.hid hy
                      obtain ⟨lE, hlE⟩ : ∃ l, lc ++ q.txt = l := ⟨_, rfl⟩
                      rw [hlE] at HYE
                      have HLE := Lib.hid hlE
                      clear hy hTX hlE
                      have HEL := Lib.hid (show rbL q = lE from by rw [HE3.out, HLE.out])
                      have HOK := Lib.hid (show rbOk q = (fc && (reqEq (rdec lE).1 q && decide ((rdec lE).2 = 0))) by
                        unfold rbOk
                        rw [HEL.out, HOP.out, HPC.out, decide_eq_true HM64.out, decide_eq_true HTX.out]
                        simp)
                      have HWE := Lib.hid (HW.out.trans (below_of_grown HYE.out.gr (by rw [HZ3.out]; omega) (fun g hg => by cases hg)))
                      have HRQ := Lib.hid (HYE.out.blk HB.out)
                      cases fc
                      · go_wp2_with fail
                        go_ret2
                        exact ⟨_, [], by rw [HOK.out]; rfl, Sl.nil, fun e => (by rw [HOK.out] at e; simp at e), HWE.out, fun g hg => (by cases hg)⟩
                      · obtain ⟨AE, cE, rfl⟩ := HYE.out.own.form
                        have hsl := HYE.out.own.sl
                        go_wp2_with fail
                        refine (rdecode_ok lE _ wr hsl).mono ?_
                        rintro e wd ⟨rfl, hWd⟩
                        have HSL := Lib.hid ((hsl.below hWd).more hWd.size)
                        have HWd := Lib.hid (HWE.out.trans (hWd.mono HWE.out.size))
                        have HRd := Lib.hid (HRQ.out.below hWd HRQ.out.lt)
                        obtain ⟨d, hd⟩ : ∃ d, rdec lE = d := ⟨_, rfl⟩
                        rw [hd] at HOK ⊢
                        have HN6 := Lib.hid (Blk.new wd 60 zeroC)
                        have HR6 := Lib.hid (HRd.out.alloc (.cells zeroC 60))
                        have HW6 := Lib.hid (HWd.out.alloc HWd.out.size (.cells zeroC 60))
                        have HS6 := Lib.hid (HSL.out.below ((Below.refl wd.heap.size wd).alloc (Nat.le_refl _) (.cells zeroC 60)))
                        clear hsl hWd hd
                        obtain ⟨w6', hst6⟩ : ∃ x, wd.alloc (.cells zeroC 60) = x := ⟨_, rfl⟩
                        rw [hst6] at HN6 HR6 HW6 HS6
                        have hlt1 := Lib.hid HRd.out.lt
                        have HR7 := Lib.hid (HR6.out.farRow (b := wd.heap.size) (by have := hlt1.out; omega) (rqC d.1))
                        have HN7 := Lib.hid (HN6.out.row (rqC d.1))
                        have HW7 := Lib.hid (below_setRow HW6.out (g := wd.heap.size) (by have := HWd.out.size; omega) (rqC d.1))
                        have HS7 := Lib.hid (HS6.out.keep (w' := w6'.setRow wd.heap.size (rqC d.1)) fun b hb => setRow_other w6' wd.heap.size b _ (by omega))
                        obtain ⟨w7', hst7⟩ : ∃ x, w6'.setRow wd.heap.size (rqC d.1) = x := ⟨_, rfl⟩
                        rw [hst7] at HR7 HN7 HW7 HS7
                        have l5 := loadReq_row (show Blk w7'.drew wd.heap.size 60 (rqC d.1) from HN7.out)
                        have l1 := loadReq_row (show Blk w7'.drew w.heap.size 60 (rqC q) from HR7.out)
                        have HW8 := Lib.hid (below_drew HW7.out)
                        have HS8 := Lib.hid (show Sl byC w7'.drew w7'.drew.heap.size (.slice AE (lE).length cE) (lE) from HS7.out.more (by rw [← hst7, ← hst6]; simp))
                        have hd2 : ∃ b, (d.2 == 0) = b := ⟨_, rfl⟩
                        obtain ⟨b, hb⟩ := hd2
                        have HDB := Lib.hid (show decide (d.2 = 0) = b by rw [← hb]; rfl)
                        cases b
                        all_goals
                          go_wp2_with (refine wpList_store_row rfl 60 (.tmp 19) (.tmp 179) rfl wd.heap.size (rqC d.1) rfl rfl 60 zeroC HN6.out (rq_size _) rfl (rq_one _) ?_)
                          refine still_all (by kernel_rfl) (by kernel_rfl) ?_
                          generalize w7'.drew = w8' at *
                          repeat still_step
                          refine wpStill_nil ?_
                          go_wp2_with fail
                          go_ret2
                          rw [HDB.out] at HOK
                          refine ⟨_, lE, ?_, HS8.out, fun _ => HEL.out.symm, HW8.out, fun g hg => Nat.le_trans HW.out.size (HYE.out.own.lt g hg).1⟩
                          rw [HOK.out]
                          simp
                · have b3 : (q.op == 3) = false := by rw [beq_eq_false_iff_ne]; exact h3
                  have HE3 := Lib.hid (show rbL q = lc by rw [HE6.out, if_neg h3, List.append_nil])
                  clear h3
                  go_wp2_with fail
                  go_loopw [4, 18] (fun bv iv wx => bv = .slice AF lc.length cF ∧ iv = .int .i64 0 ∧ wa = wx) (fun _ _ _ => 0)
                  case atStart => exact ⟨rfl, rfl, rfl⟩
                  case round =>
                    obtain ⟨rfl, rfl, rfl⟩ := hrel
                    by_cases ht0 : 0 < t
                    all_goals
                      have HEL := Lib.hid (show rbL q = lc from HE3.out)
                      have HOK := Lib.hid (show rbOk q = (fc && (reqEq (rdec lc).1 q && decide ((rdec lc).2 = 0))) by
                        unfold rbOk
                        rw [HEL.out, HOP.out, HPC.out, decide_eq_true HM64.out, decide_eq_true HTX.out]
                        simp)
                      have HWE := Lib.hid (HW.out.trans (below_of_grown HYA.out.gr (by rw [HZ3.out]; omega) (fun g hg => by cases hg)))
                      have HRQ := Lib.hid (HYA.out.blk HB.out)
                      cases fc
                      · go_wp2_with fail
                        go_ret2
                        exact ⟨_, [], by rw [HOK.out]; rfl, Sl.nil, fun e => (by rw [HOK.out] at e; simp at e), HWE.out, fun g hg => (by cases hg)⟩
                      · have hdummy := trivial
                        have hsl := HYA.out.own.sl
                        go_wp2_with fail
                        refine (rdecode_ok lc _ wa hsl).mono ?_
                        rintro e wd ⟨rfl, hWd⟩
                        have HSL := Lib.hid ((hsl.below hWd).more hWd.size)
                        have HWd := Lib.hid (HWE.out.trans (hWd.mono HWE.out.size))
                        have HRd := Lib.hid (HRQ.out.below hWd HRQ.out.lt)
                        obtain ⟨d, hd⟩ : ∃ d, rdec lc = d := ⟨_, rfl⟩
                        rw [hd] at HOK ⊢
                        have HN6 := Lib.hid (Blk.new wd 60 zeroC)
                        have HR6 := Lib.hid (HRd.out.alloc (.cells zeroC 60))
                        have HW6 := Lib.hid (HWd.out.alloc HWd.out.size (.cells zeroC 60))
                        have HS6 := Lib.hid (HSL.out.below ((Below.refl wd.heap.size wd).alloc (Nat.le_refl _) (.cells zeroC 60)))
                        clear hsl hWd hd
                        obtain ⟨w6', hst6⟩ : ∃ x, wd.alloc (.cells zeroC 60) = x := ⟨_, rfl⟩
                        rw [hst6] at HN6 HR6 HW6 HS6
                        have hlt1 := Lib.hid HRd.out.lt
                        have HR7 := Lib.hid (HR6.out.farRow (b := wd.heap.size) (by have := hlt1.out; omega) (rqC d.1))
                        have HN7 := Lib.hid (HN6.out.row (rqC d.1))
                        have HW7 := Lib.hid (below_setRow HW6.out (g := wd.heap.size) (by have := HWd.out.size; omega) (rqC d.1))
                        have HS7 := Lib.hid (HS6.out.keep (w' := w6'.setRow wd.heap.size (rqC d.1)) fun b hb => setRow_other w6' wd.heap.size b _ (by omega))
                        obtain ⟨w7', hst7⟩ : ∃ x, w6'.setRow wd.heap.size (rqC d.1) = x := ⟨_, rfl⟩
                        rw [hst7] at HR7 HN7 HW7 HS7
                        have l5 := loadReq_row (show Blk w7'.drew wd.heap.size 60 (rqC d.1) from HN7.out)
                        have l1 := loadReq_row (show Blk w7'.drew w.heap.size 60 (rqC q) from HR7.out)
                        have HW8 := Lib.hid (below_drew HW7.out)
                        have HS8 := Lib.hid (show Sl byC w7'.drew w7'.drew.heap.size (.slice AF (lc).length cF) (lc) from HS7.out.more (by rw [← hst7, ← hst6]; simp))
                        have hd2 : ∃ b, (d.2 == 0) = b := ⟨_, rfl⟩
                        obtain ⟨b, hb⟩ := hd2
                        have HDB := Lib.hid (show decide (d.2 = 0) = b by rw [← hb]; rfl)
                        cases b
                        all_goals
                          go_wp2_with (refine wpList_store_row rfl 60 (.tmp 19) (.tmp 179) rfl wd.heap.size (rqC d.1) rfl rfl 60 zeroC HN6.out (rq_size _) rfl (rq_one _) ?_)
                          refine still_all (by kernel_rfl) (by kernel_rfl) ?_
                          generalize w7'.drew = w8' at *
                          repeat still_step
                          refine wpStill_nil ?_
                          go_wp2_with fail
                          go_ret2
                          rw [HDB.out] at HOK
                          refine ⟨_, lc, ?_, HS8.out, fun _ => HEL.out.symm, HW8.out, fun g hg => Nat.le_trans HW.out.size (HYA.out.own.lt g hg).1⟩
                          rw [HOK.out]
                          simp
end Go.Proofs.YtldjgpnbkbmgoaaGreatDoor

namespace Go.Proofs.YtldjgpnbkbmgoaaGreatDoor
open Go.RowKit Go.ChangeShapes Go.WideShapes Go.Lib
attribute [local go_sem ↓] load_req stop_req
theorem rbytes_ok2 (q : Req) (w : World) (hq : q.fits) (hib : q.ib) : Calls Tryz.prog 45 #[.agg (rqC q)] w (YPost2 w (rbOk q) (rbL q)) := by
  by_cases hop : isOp q.op = true
  · by_cases hm : q.m ≤ 64
    · by_cases ht : q.txt.length ≤ 512
      · exact rbytes_go2 q w hq hib hop hm ht
      · have h : rbOk q = false := by unfold rbOk; simp [ht]
        rw [h]
        exact rbytes_no2 q w (.inr (.inr ⟨hop, hm, by omega⟩))
    · have h : rbOk q = false := by unfold rbOk; simp [hm]
      rw [h]
      exact rbytes_no2 q w (.inr (.inl ⟨hop, by omega⟩))
  · have hop' : isOp q.op = false := by simpa using hop
    have h : rbOk q = false := by unfold rbOk; simp [hop']
    rw [h]
    exact rbytes_no2 q w (.inl hop')
theorem rbytes_ok (q : Req) (w : World) (hq : q.fits) (hib : q.ib) : Calls Tryz.prog 45 #[.agg (rqC q)] w (YPost w (rbOk q) (rbL q)) :=
  (rbytes_ok2 q w hq hib).mono fun _ _ h => h.weak
end Go.Proofs.YtldjgpnbkbmgoaaGreatDoor

