/-
  Faults held against each other; two jobs that are the same. Conditions: as each states.
-/
import Derived.Test.YtldjgpnbkbmgoaaGreatDoorPR6
import Derived.Test.YtldjgpnbkbmgoaaGreatDoorPR12
set_option linter.unusedSimpArgs false
set_option linter.unusedVariables false
set_option maxRecDepth 100000
set_option maxHeartbeats 8000000
namespace Go.Proofs.YtldjgpnbkbmgoaaGreatDoor
open Go.RowKit Go.Lib
attribute [local go_sem ↓] load_req stop_req
def eq3 (a b c a' b' c' : Int) : Bool := decide (a = a' ∧ b = b' ∧ c = c')
@[go_sem high] theorem eqFlt (a b c a' b' c' : Int) (w : World) : (Op.equalIn 10000 31 (.agg #[.int .i64 a, .int .i64 b, .int .i64 c]) (.agg #[.int .i64 a', .int .i64 b', .int .i64 c'])).run Tryz.prog w = .ok (eq3 a b c a' b' c') w := by
  have hS : Tryz.prog.underlying 31 = some (.struct (Tryz.prog.fieldsOf 31)) := by kernel_rfl
  have hp : Tryz.prog.stoodInHeld 31 = false := by kernel_rfl
  rw [show (10000 : Nat) = 9999 + 1 from rfl, run_equalIn_agg w 9999 31 _ _ hS hp]
  simp only [Program.fieldsOf, Tryz.underlying31]
  go_simp
  unfold eq3
  by_cases h0 : a = a' <;> by_cases h1 : b = b' <;> by_cases h2 : c = c' <;> simp [h0, h1, h2]
@[go_sem] theorem gdFlt : Tryz.prog.eqGuardType Tryz.prog.depth 31 = false := by kernel_rfl
abbrev lay0 (wx : World) : World := (wx.alloc (.cells (jC nilV nilV) 26)).alloc (.cells (fC 0 0) 31)
abbrev lay2 (wx : World) (vs vi : Value) (e : Int) (line : Nat) : World := ((lay0 wx).setRow wx.heap.size (jC vs vi)).setRow (wx.heap.size + 1) (fC e line)
theorem lay0_j (wx : World) : Blk (lay0 wx) wx.heap.size 26 (jC nilV nilV) := (Blk.new wx _ _).alloc _
theorem lay0_f (wx : World) : Blk (lay0 wx) (wx.heap.size + 1) 31 (fC 0 0) := by
  have h := Blk.new (wx.alloc (.cells (jC nilV nilV) 26)) 31 (fC 0 0)
  have hz : (wx.alloc (.cells (jC nilV nilV) 26)).heap.size = wx.heap.size + 1 := by simp
  rwa [hz] at h
theorem lay0_below (wx : World) : Below wx.heap.size wx (lay0 wx) := by
  have h1 := (Below.refl wx.heap.size wx).alloc (Nat.le_refl _) (.cells (jC nilV nilV) 26)
  exact h1.alloc h1.size _
theorem lay2_below (wx : World) (vs vi : Value) (e : Int) (line : Nat) : Below wx.heap.size wx (lay2 wx vs vi e line) := below_setRow (below_setRow (lay0_below wx) (Nat.le_refl _) _) (by omega) _
structure FB (w wx : World) (g : Nat) (e : Int) (line : Nat) : Prop where
  b : Blk wx g 31 (fC e line)
  bel : Below w.heap.size w wx
theorem FB.keep {w wx wy : World} {g : Nat} {e : Int} {line : Nat} (h : FB w wx g e line) (hb : Below wx.heap.size wx wy) : FB w wy g e line := ⟨h.b.below hb h.b.lt, h.bel.trans (hb.mono h.bel.size)⟩
theorem FB.laid {w wx : World} (hb : Below w.heap.size w wx) (vs vi : Value) (e : Int) (line : Nat) : FB w (lay2 wx vs vi e line) (wx.heap.size + 1) e line :=
  ⟨((lay0_f wx).farRow (by omega) _).row _, hb.trans ((lay2_below wx vs vi e line).mono hb.size)⟩
theorem FB.err {w wx : World} {g : Nat} {e : Int} {line : Nat} (h : FB w wx g e line) : wx.cell? ⟨g, 0, none⟩ = some (.int .i64 e) := h.b.is 0 rfl
theorem FB.line {w wx : World} {g : Nat} {e : Int} {line : Nat} (h : FB w wx g e line) : wx.cell? ⟨g, 1, none⟩ = some (.int .i64 (line : Nat)) := h.b.is 1 rfl
theorem lay2_j (wx : World) (vs vi : Value) (e : Int) (line : Nat) : Blk (lay2 wx vs vi e line) wx.heap.size 26 (jC vs vi) := ((lay0_j wx).row _).farRow (by omega) _
theorem FB.all {w wx : World} {g : Nat} {e : Int} {line : Nat} (h : FB w wx g e line) : wx.cell? ⟨g, 2, none⟩ = some (.int .i64 (if e = 0 then 0 else 1)) := h.b.is 2 rfl
noncomputable def loadHit (p : Value) (w : World) : Result Next := (execOp (fun _ => p) ⟨none, .load 62 (.tmp 0), 0, "", #[], none⟩).run Tryz.prog w
theorem load_hit (ρ : Operand → Value) (dst : Option Tmp) (x : Operand) (t : TypeId) (pos : String) (after : Array Edge) (gd : Option (Nat × Bool)) (w : World) :
    (execOp ρ ⟨dst, .load 62 x, t, pos, after, gd⟩).run Tryz.prog w = loadHit (ρ x) w := rfl
theorem loadHit_lay {w : World} {g o : Nat} {r : HRw} (h : Lay w g o (hiA r).toList) : loadHit (.pointer (some ⟨g, o, none⟩)) w = .ok (.value (.agg (hiA r))) w := by
  unfold loadHit execOp
  simp only [Instr.loadAt, Instr.sureAddr, Sem.run_bind, Sem.run_pure, Result.andThen_ok]
  have := run_loadVar_mid (P := Tryz.prog) w g o 62 (hiA r).toList _ (fun j u hu => h j u hu) Tryz.underlying62 rfl (by simpa using hit_size r)
  simp only [this, Result.andThen_ok]
def StopStoreI (P : Program) (o : Oper) (a : Act) (w : World) (K : Act → World → Prop) (Q : Exit → Act → World → Prop) : Prop := Oper.wp P o a w K Q
theorem stop_hit (dst : Option Tmp) (x y : Operand) (t : TypeId) (pos : String) (after : Array Edge) (gd : Option (Nat × Bool)) (a : Act) (w : World) (K : Act → World → Prop) (Q : Exit → Act → World → Prop) :
    Oper.wp Tryz.prog ⟨dst, .store 62 x y, t, pos, after, gd⟩ a w K Q = StopStoreI Tryz.prog ⟨dst, .store 62 x y, t, pos, after, gd⟩ a w K Q := rfl
theorem StopStoreI.row {o : Oper} {a : Act} {w : World} {K : Act → World → Prop} {Q : Exit → Act → World → Prop} (x y : Operand) (ho : o.op = .store 62 x y) (g : Nat) (cells old : Array Value) (hx : a.eval x = .pointer (some ⟨g, 0, none⟩)) (hy : a.eval y = .agg cells)
    (hg : Blk w g 62 old) (hi : (Tryz.prog.info? 62).map (·.size) = some cells.size) (h1 : old.size = cells.size) (hc : cells.all (·.oneCell') = true) (h : K (a.put o.dst undef) (w.setRow g cells)) : StopStoreI Tryz.prog o a w K Q :=
  wp_store_row 62 x y ho g cells hx hy 62 old hg hi h1 hc h
structure SJ (w wx : World) (v0 v1 v2 v3 : Value) : Prop where
  b0 : Blk wx w.heap.size 26 (jC v0 v1)
  b1 : Blk wx (w.heap.size + 1) 26 (jC v2 v3)
  bel : Below w.heap.size w wx
theorem SJ.to {w wx wy : World} {v0 v1 v2 v3 : Value} (h : SJ w wx v0 v1 v2 v3) (hb : Below wx.heap.size wx wy) : SJ w wy v0 v1 v2 v3 :=
  ⟨h.b0.below hb h.b0.lt, h.b1.below hb h.b1.lt, h.bel.trans (hb.mono h.bel.size)⟩
theorem SJ.cells {w wx : World} {v0 v1 v2 v3 : Value} (h : SJ w wx v0 v1 v2 v3) : wx.cell? ⟨w.heap.size, 0, none⟩ = some v0 ∧ wx.cell? ⟨w.heap.size, 1, none⟩ = some v1 ∧ wx.cell? ⟨w.heap.size + 1, 0, none⟩ = some v2 ∧ wx.cell? ⟨w.heap.size + 1, 1, none⟩ = some v3 :=
  ⟨h.b0.is 0 rfl, h.b0.is 1 rfl, h.b1.is 0 rfl, h.b1.is 1 rfl⟩
theorem SJ.start (w : World) (v0 v1 v2 v3 : Value) : SJ w ((w.alloc (.cells (jC v0 v1) 26)).alloc (.cells (jC v2 v3) 26)) v0 v1 v2 v3 := by
  have h1 := (Below.refl w.heap.size w).alloc (Nat.le_refl _) (.cells (jC v0 v1) 26)
  refine ⟨(Blk.new w _ _).alloc _, ?_, h1.alloc h1.size _⟩
  have h := Blk.new (w.alloc (.cells (jC v0 v1) 26)) 26 (jC v2 v3)
  have hz : (w.alloc (.cells (jC v0 v1) 26)).heap.size = w.heap.size + 1 := by simp
  rwa [hz] at h
theorem blk_new_at {w : World} {n : Nat} {t : TypeId} {cs : Array Value} (h : w.heap.size = n) : Blk (w.alloc (.cells cs t)) n t cs := by
  subst h
  exact Blk.new w t cs
theorem alloc_size (w : World) (o : Obj) : (w.alloc o).heap.size = w.heap.size + 1 := by simp
theorem succ_ne (n : Nat) : n + 1 ≠ n := Nat.succ_ne_self n
theorem ne_succ (n : Nat) : n ≠ n + 1 := (Nat.succ_ne_self n).symm
structure TB (w wx : World) (v0 v1 v2 v3 : Value) (r r' : HRw) (g7 g8 : Nat) : Prop where
  j : SJ w wx v0 v1 v2 v3
  b7 : Blk wx g7 62 (hiA r)
  b8 : Blk wx g8 62 (hiA r')
attribute [local go_sem ↓] load_hit stop_hit
theorem same_ok (vs vi vs' vi' : Value) (ss : List Nat) (rs rs' : List HRw) (w : World) (h : JSl w vs vi ss rs) (h' : JSl w vs' vi' ss rs') (hx : xsOf rs = xsOf rs') : Calls Tryz.prog 16 #[.agg (jC vs vi), .agg (jC vs' vi')] w (BPost w true) := by
  have hlen : rs'.length = rs.length := by have := congrArg List.length hx; simpa using this.symm
  have HOK := Lib.hid h.ok
  have HOK' := Lib.hid h'.ok
  have HX := Lib.hid hx
  obtain ⟨A, ca, rfl, a1, a2, a3⟩ := h.s
  obtain ⟨B, cb, rfl, b1, b2, b3⟩ := h.i
  obtain ⟨A', ca', rfl, a1', a2', a3'⟩ := h'.s
  obtain ⟨B', cb', rfl, b1', b2', b3'⟩ := h'.i
  have HA := Lib.hid a3
  have HA' := Lib.hid a3'
  have HB := Lib.hid b3
  have HB' := Lib.hid b3'
  have HLN := Lib.hid hlen
  rw [hlen] at b1' ⊢
  have hj := SJ.start w (.slice A ss.length ca) (.slice B rs.length cb) (.slice A' ss.length ca') (.slice B' rs.length cb')
  obtain ⟨w1, hst1⟩ : ∃ w1, (w.alloc (.cells (jC (.slice A ss.length ca) (.slice B rs.length cb)) 26)).alloc (.cells (jC (.slice A' ss.length ca') (.slice B' rs.length cb')) 26) = w1 := ⟨_, rfl⟩
  rw [hst1] at hj
  have HJ := Lib.hid hj
  obtain ⟨c00, c01, c10, c11⟩ := hj.cells
  have hz1 : ¬ w.heap.size + 1 = w.heap.size := by omega
  unfold maxLen at a2 b2
  clear hj a3 a3' b3 b3' hx h h' hlen a2' b2'
  go_enter Tryz.func16, Tryz.ntmps16
  go_wp2_with fail
  go_loopw [5] (fun i wr => ∃ k n : Nat, k ≤ ss.length ∧ i = .int .i64 (k : Nat) ∧ wr = w1.drewN n) (fun i _ => (ss.length - Go.RowKit.intOf i).toNat)
  case atStart => exact ⟨0, 0, Nat.zero_le _, rfl, rfl⟩
  case round =>
    obtain ⟨k, n0, hk, rfl, rfl⟩ := hrel
    by_cases hlt : k < ss.length
    · obtain ⟨b, off, rfl, hb, hlay⟩ := HA.out (by omega)
      obtain ⟨b', off', rfl, hb', hlay'⟩ := HA'.out (by omega)
      have x0 := ((hlay.of_heap (HJ.out.bel.block b hb)).elem usC_len k hlt).us
      have x1 := ((hlay'.of_heap (HJ.out.bel.block b' hb')).elem usC_len k hlt).us
      rw [Nat.mul_one] at x0 x1
      obtain ⟨s, hs⟩ : ∃ s, s = ss[k] := ⟨_, rfl⟩
      rw [← hs] at x0 x1
      clear hlay hlay' hs
      go_wp2_with fail
      go_quiet (fail)
      go_wp2_with fail
      go_roundw
      case rel => exact ⟨k + 1, _, by omega, by go_num, rfl⟩
      case measure => simp [Go.RowKit.intOf]; omega
    · obtain rfl : k = ss.length := by omega
      go_wp2_with fail
      go_loopw [6] (fun i wr => ∃ k : Nat, k ≤ rs.length ∧ i = .int .i64 (k : Nat) ∧ SJ w wr (.slice A ss.length ca) (.slice B rs.length cb) (.slice A' ss.length ca') (.slice B' rs.length cb')) (fun i _ => (rs.length - Go.RowKit.intOf i).toNat)
      case atStart => exact ⟨0, Nat.zero_le _, rfl, HJ.out.to (below_drewN (Below.refl _ _) _)⟩
      case round =>
        obtain ⟨k, hk, rfl, hjr⟩ := hrel
        have HJR := Lib.hid hjr
        obtain ⟨-, c01, -, c11⟩ := hjr.cells
        clear hjr c00 c10
        by_cases hlt : k < rs.length
        · have hlt' : k < rs'.length := by rw [HLN.out]; exact hlt
          obtain ⟨b, off, rfl, hb, hlay⟩ := HB.out (by omega)
          obtain ⟨b', off', rfl, hb', hlay'⟩ := HB'.out (by omega)
          have hxe : rs[k].x = rs'[k].x := by
            have h1 := congrArg (·[k]?) HX.out
            simp only [xsOf, List.getElem?_map, List.getElem?_eq_getElem hlt, List.getElem?_eq_getElem hlt', Option.map_some, Option.some.injEq] at h1
            exact h1
          have hok := HOK.out rs[k] (List.getElem_mem hlt)
          have hok' := HOK'.out rs'[k] (List.getElem_mem hlt')
          have hrow := hlay.elem hiC_len k hlt
          have hrow' := hlay'.elem hiC_len k hlt'
          obtain ⟨⟨x, E, ce⟩, hr⟩ : ∃ r, r = rs[k] := ⟨_, rfl⟩
          obtain ⟨⟨x', E', ce'⟩, hr'⟩ : ∃ r, r = rs'[k] := ⟨_, rfl⟩
          rw [← hr] at hrow hok hxe
          rw [← hr'] at hrow' hok' hxe
          obtain rfl : x = x' := hxe
          have HLY := Lib.hid (fun wx (hbx : Below w.heap.size w wx) => loadHit_lay (r := ⟨x, E, ce⟩) (hrow.of_heap (hbx.block b hb)))
          have HLY' := Lib.hid (fun wx (hbx : Below w.heap.size w wx) => loadHit_lay (r := ⟨x, E', ce'⟩) (hrow'.of_heap (hbx.block b' hb')))
          have HK1 := Lib.hid hok
          have HK2 := Lib.hid hok'
          have l0 := HLY.out wr HJR.out.bel
          have l1 := HLY'.out wr HJR.out.bel
          have hszr := HJR.out.bel.size
          clear hrow hrow' hr hr' hok hok' hlay hlay'
          go_upto_region 11 with fail
          have HS := Lib.hid (fun wx (hbx : Below wr.heap.size wr wx) => And.intro (((HJR.out.to hbx).cells).2.1) (And.intro (((HJR.out.to hbx).cells).2.2.2) (And.intro (HLY.out wx (HJR.out.bel.trans (hbx.mono hszr))) (HLY'.out wx (HJR.out.bel.trans (hbx.mono hszr))))))
          have HBW := Lib.hid (fun (g g' : Nat) (cs cs' : Array Value) (hg : wr.heap.size ≤ g) (hg' : wr.heap.size ≤ g') => below_setRow (below_setRow (((below_drew (Below.refl wr.heap.size wr)).alloc (Nat.le_refl _) (.cells zeroHi 62)).alloc (by simp) (.cells zeroHi 62)) hg cs) hg' cs')
          clear l0 l1
          go_cut [7, 8] (fun p7 p8 wx => ∃ g7 g8, p7 = .pointer (some ⟨g7, 0, none⟩) ∧ p8 = .pointer (some ⟨g8, 0, none⟩) ∧ g7 ≠ g8 ∧ Hid (TB w wx (.slice A ss.length ca) (.slice (some ⟨b, off, none⟩) rs.length cb) (.slice A' ss.length ca') (.slice (some ⟨b', off', none⟩) rs.length cb') ⟨x, E, ce⟩ ⟨x, E', ce'⟩ g7 g8))
          · go_region_held3 (fun wx => wx.cell? ⟨w.heap.size, 1, none⟩ = some (.slice (some ⟨b, off, none⟩) rs.length cb) ∧ wx.cell? ⟨w.heap.size + 1, 1, none⟩ = some (.slice (some ⟨b', off', none⟩) rs.length cb') ∧ loadHit (.pointer (some ⟨b, off + k * 29, none⟩)) wx = .ok (.value (.agg (hiA ⟨x, E, ce⟩))) wx ∧ loadHit (.pointer (some ⟨b', off' + k * 29, none⟩)) wx = .ok (.value (.agg (hiA ⟨x, E', ce'⟩))) wx)
              ((refine HS.out _ ?_; repeat (first | exact Below.refl _ _ | refine below_drew ?_ | refine Below.alloc ?_ (by simp) _ | refine below_setRow ?_ (by omega) _)))
              (first
                | (refine StopStoreI.row (.tmp 7) (.tmp 54) rfl _ (hiA ⟨x, E, ce⟩) zeroHi rfl rfl ?_ (hit_size _) rfl (hiA_one _) ?_; (first | exact (blk_new_at rfl).alloc _ | exact blk_new_at (alloc_size _ _) | exact blk_new_at rfl))
                | (refine StopStoreI.row (.tmp 8) (.tmp 59) rfl _ (hiA ⟨x, E', ce'⟩) zeroHi rfl rfl ?_ (hit_size _) rfl (hiA_one _) ?_; (first | exact (blk_new_at (alloc_size _ _)).farRow (succ_ne _) _ | exact ((blk_new_at rfl).alloc _).farRow (ne_succ _) _)))
            all_goals
              go_wp2_with fail
              go_meet
              first
                | exact ⟨_, _, rfl, rfl, ne_succ _, Lib.hid ⟨HJR.out.to (HBW.out _ _ _ _ (Nat.le_refl _) (Nat.le_succ _)), (((blk_new_at rfl).alloc _).row _).farRow (ne_succ _) _, ((blk_new_at (alloc_size _ _)).farRow (succ_ne _) _).row _⟩⟩
                | exact ⟨_, _, rfl, rfl, succ_ne _, Lib.hid ⟨HJR.out.to (HBW.out _ _ _ _ (Nat.le_succ _) (Nat.le_refl _)), ((blk_new_at (alloc_size _ _)).row _).farRow (succ_ne _) _, (((blk_new_at rfl).alloc _).farRow (ne_succ _) _).row _⟩⟩
          case rest =>
          obtain ⟨g7, g8, rfl, rfl, hne, HT⟩ := hcut
          have HNE := Lib.hid hne
          clear hne HS HBW
          have h7 := HT.out.b7
          have h8 := HT.out.b8
          have e70 := h7.is 0 (a := .int .i64 x.kind) rfl
          have e71 := h7.is 1 (a := .int .i64 x.conn) rfl
          have e72 := h7.is 2 (a := .slice E x.bs.length ce) rfl
          have e73 := h7.is 3 (a := .int .u64 (x.draw : Nat)) rfl
          have e74 := h7.is 4 (a := .int .i64 x.n) rfl
          have e80 := h8.is 0 (a := .int .i64 x.kind) rfl
          have e81 := h8.is 1 (a := .int .i64 x.conn) rfl
          have e82 := h8.is 2 (a := .slice E' x.bs.length ce') rfl
          have e83 := h8.is 3 (a := .int .u64 (x.draw : Nat)) rfl
          have e84 := h8.is 4 (a := .int .i64 x.n) rfl
          have q7 : loadReq (.pointer (some ⟨g7, 5, none⟩)) wc = .ok (.value (.agg (rqC x.q))) wc := loadReq_at (by have h := h7.lay.drop 5; rwa [Nat.zero_add] at h)
          have q8 : loadReq (.pointer (some ⟨g8, 5, none⟩)) wc = .ok (.value (.agg (rqC x.q))) wc := loadReq_at (by have h := h8.lay.drop 5; rwa [Nat.zero_add] at h)
          have hself : reqEq x.q x.q = true := by simp [reqEq]
          have HS31 := Lib.hid (rsame_ok x.bs x.bs (.slice E x.bs.length ce) (.slice E' x.bs.length ce') wc wc.heap.size (HK1.out.below HT.out.j.bel).sl (HK2.out.below HT.out.j.bel).sl)
          have hdx : decide (x.bs = x.bs) = true := by simp
          rw [hdx] at HS31
          clear h7 h8 hdx
          go_wp2_with fail
          refine HS31.out.mono ?_
          rintro e w4 ⟨rfl, n, rfl⟩
          go_wp2_with fail
          go_roundw
          case rel => exact ⟨k + 1, by omega, by go_num, HT.out.j.to (below_drewN (Below.refl _ _) _)⟩
          case measure => simp [Go.RowKit.intOf]; omega
        · obtain rfl : k = rs.length := by omega
          go_wp2_with fail
          go_ret
          exact ⟨rfl, HJR.out.bel⟩
end Go.Proofs.YtldjgpnbkbmgoaaGreatDoor

