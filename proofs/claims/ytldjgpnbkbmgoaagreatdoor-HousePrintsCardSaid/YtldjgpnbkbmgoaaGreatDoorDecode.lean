/-
  The program's Decode. Conditions: as each states.
-/
import Derived.Test.YtldjgpnbkbmgoaaGreatDoorGeom
import Derived.Laws.CopyOwn
import Derived.Laws.Rows
import Derived.Laws.Tables
namespace Go.Proofs.YtldjgpnbkbmgoaaGreatDoor
open Go.RowKit Go.Lib

/-- What Decode gives behind the first bytes; -/
def dec2 (p : CS × Req) : Req × Int :=
  if isOp p.2.op = false then (zeroR 0, 51) else
  if p.1.bad = true then (zeroR 0, 33) else
  if p.1.l.length < fieldsN p.2.op then (zeroR 0, 50) else
  if (if p.2.op = 3 then 512 else fieldsN p.2.op) < p.1.l.length then (zeroR 0, 2) else
  if (fieldsS p).1.bad = true ∨ boxedB (fieldsS p).2 = false then (zeroR 0, 33) else ((fieldsS p).2, 0)
/-- of all bytes. -/
def dec (l : List UInt8) : Req × Int := if l.length < 13 then (zeroR 0, 50) else dec2 (aheadS (⟨2, l, 0, false⟩, zeroR 0))

def DPost (w : World) (d : Req × Int) (e : Ending) (w' : World) : Prop := e = .returned (.tuple #[.agg (rqC d.1), .int .i64 d.2]) ∧ Below w.heap.size w w'

theorem nS_len {off : Nat} {L : Lens off} {k : Nat} {most : Int} {p : CS × Req} (h : p.1.m = 2) : (nS L k most p).1.l = p.1.l.drop k := by
  unfold nS
  rw [if_neg (by rw [h]; decide), if_pos h]
theorem lS_len {off : Nat} {L : LensU off} {p : CS × Req} (h : p.1.m = 2) : (lS L p).1.l = p.1.l.drop 8 := by
  unfold lS
  rw [if_neg (by rw [h]; decide), if_pos h]
theorem ahead_rest (l : List UInt8) (q : Req) : (aheadS (⟨2, l, 0, false⟩, q)).1.l = l.drop 13 := by
  unfold aheadS
  rw [nS_len (by simp only [nS_md, lS_md]), lS_len (by simp only [nS_md]), nS_len (by simp only [nS_md]), nS_len (by simp only [nS_md]), nS_len rfl]
  simp [List.drop_drop]
theorem nS_n {off : Nat} {L : Lens off} {k : Nat} {most : Int} {p : CS × Req} (h : p.1.m = 2) : (nS L k most p).1.n = p.1.n + k := by
  unfold nS
  rw [if_neg (by rw [h]; decide), if_pos h]
theorem lS_n {off : Nat} {L : LensU off} {p : CS × Req} (h : p.1.m = 2) : (lS L p).1.n = p.1.n + 8 := by
  unfold lS
  rw [if_neg (by rw [h]; decide), if_pos h]
theorem ahead_n (l : List UInt8) (q : Req) : (aheadS (⟨2, l, 0, false⟩, q)).1.n = 13 := by
  unfold aheadS
  rw [nS_n (by simp only [nS_md, lS_md]), lS_n (by simp only [nS_md]), nS_n (by simp only [nS_md]), nS_n (by simp only [nS_md]), nS_n rfl]
  rfl
theorem ahead_md (p : CS × Req) : (aheadS p).1.m = p.1.m := by
  unfold aheadS
  simp only [nS_md, lS_md]
theorem fit_ahead {p : CS × Req} {b j : Nat} (h : Fit p.1 b) (e : 13 + j = b) : Fit (aheadS p).1 j := by
  subst e
  exact fit_n (b := 1 + j) (fit_l (b := 9 + j) (fit_n (b := 11 + j) (fit_n (b := 12 + j) (fit_n h (by omega)) (by omega)) (by omega)) (by omega)) (by omega)

/-- A request of zeros, as the walk writes it. -/
abbrev zeroC : Array Value := #[.int .i64 0, .int .i64 0, .int .i64 0, .int .u64 0, .int .i64 0, .int .i64 0, .int .i64 0, .int .i64 0, .int .i64 0, .string ⟨#[]⟩, .int .i64 0, .int .i64 0, .int .i64 0, .int .i64 0, .int .i64 0, .int .i64 0, .int .i64 0, .int .u64 0, .int .i64 0, .int .u64 0, .int .i64 0, .int .i64 0, .int .i64 0, .int .i64 0]
theorem zeroC_eq : zeroC = rqC (zeroR 0) := rfl
theorem zero_one : zeroC.all (·.oneCell') = true := by simp [Value.oneCell']
theorem zero_size : (Tryz.prog.info? 60).map (·.size) = some zeroC.size := by kernel_rfl
theorem rq_one (q : Req) : (rqC q).all (·.oneCell') = true := by simp [Value.oneCell']
theorem rq_size (q : Req) : (Tryz.prog.info? 60).map (·.size) = some (rqC q).size := by kernel_rfl
theorem Blk.row {w : World} {g : Nat} {t : TypeId} {old : Array Value} (h : Blk w g t old) (cs : Array Value) : Blk (w.setRow g cs) g t cs := setRow_heap w g old _ t _ h
theorem Blk.farRow {w : World} {g b : Nat} {t : TypeId} {old : Array Value} (h : Blk w g t old) (hb : g ≠ b) (cs : Array Value) : Blk (w.setRow b cs) g t old := (setRow_other w b g cs hb).trans h
theorem Cod.keep {w w' : World} {base c : Nat} {s : CS} (h : Cod w base c s) (hb : Below w.heap.size w w') : Cod w' base c s := by
  obtain ⟨A, cap, h1, h2, h3, h4⟩ := h
  exact ⟨A, cap, h1.below hb h1.lt, h2, fun e => (h3 e).keep fun b hbb => hb.block b ((h3 e).lt b hbb).2, fun e => (h4 e).below (hb.mono (Nat.le_of_lt (Nat.lt_of_le_of_lt h2 h1.lt)))⟩
theorem Rq.keep {w w' : World} {r : Nat} {q : Req} (h : Rq w r q) (hb : Below w.heap.size w w') : Rq w' r q := Blk.below h hb (Blk.lt h)

section
variable {P : Program}
/-- A whole row is read at a guarded operation. -/
theorem load_rowG {ops : Array Oper} {rest : List Oper} {o : Oper} {a : Act} {w : World} {Q : Exit → Act → World → Prop} (hw : Region.wanted o (yielded ops a.tmps) = true) (ty : TypeId) (x : Operand) (ho : o.op = .load ty x)
    (g : Nat) (hx : a.eval x = .pointer (some ⟨g, 0, none⟩)) (t : TypeId) (cs : Array Value) (fr : Nat × Nat) (d : TypeDesc) (hg : w.heap[g]? = some (.cells cs t fr))
    (hu : P.underlying ty = some d) (hd : (match d with | .struct _ | .array _ _ => true | _ => false) = true) (hi : (P.info? ty).map (·.size) = some cs.size)
    (h : wpList P ops Q rest (a.put o.dst (.agg cs)) w) : wpList P ops Q (o :: rest) a w :=
  wpList_step fun K hK => by
    rw [if_pos hw]
    exact wp_load_row ty x ho g hx t cs fr d hg hu hd hi (hK _ _ h)
/-- Two results: a struct in memory, and a plain one. -/
theorem results_cell_tmp {fn : Func} {p q : Tmp} {ty : TypeId} (h : fn.results = #[.cell p ty, .tmp q]) (tmps : Array Value) (w : World) (g : Nat) (t : TypeId) (cs : Array Value) (fr : Nat × Nat) (d : TypeDesc)
    (hp : tmps.getD p undef = .pointer (some ⟨g, 0, none⟩)) (hg : w.heap[g]? = some (.cells cs t fr))
    (hu : P.underlying ty = some d) (hd : (match d with | .struct _ | .array _ _ => true | _ => false) = true) (hi : (P.info? ty).map (·.size) = some cs.size) :
    (results fn tmps).run P w = .ok (.tuple #[.agg cs, tmps.getD q undef]) w := by
  have hp' : tmps[p]?.getD undef = .pointer (some ⟨g, 0, none⟩) := by simpa using hp
  simp [results, h, hp', asAddr, run_loadVar_row w g t ty cs fr d hg hu hd hi]
end

set_option maxRecDepth 100000 in
set_option maxHeartbeats 4000000 in
theorem decode_ok (l : List UInt8) (s : Value) (w : World) (hs : Sl byC w w.heap.size s l) : Calls Tryz.prog 112 #[s] w (DPost w (dec l)) := by
  have HS := Lib.hid hs
  obtain ⟨A, cap, rfl, h1, h2, h3⟩ := hs
  clear h3
  have hb0 := Lib.hid (Blk.new w 60 zeroC)
  have hW0 := Lib.hid ((Below.refl w.heap.size w).alloc (Nat.le_refl _) (.cells zeroC 60))
  have hz0 : (w.alloc (.cells zeroC 60)).heap.size = w.heap.size + 1 := by simp
  obtain ⟨w0, hst0⟩ : ∃ w0, w.alloc (.cells zeroC 60) = w0 := ⟨_, rfl⟩
  rw [hst0] at hb0 hW0 hz0
  unfold maxLen at h2
  by_cases hl : l.length < 13
  · have hd : dec l = (zeroR 0, 50) := by unfold dec; rw [if_pos hl]
    rw [hd]
    clear hd
    go_enter Tryz.func112, Tryz.ntmps112
    go_wp2_with (refine wpList_store_row rfl 60 (.tmp 2) (.tmp 11) rfl w.heap.size zeroC rfl rfl 60 zeroC hb0.out zero_size rfl zero_one ?_)
    refine bodyPost_ret (results_cell_tmp rfl _ _ w.heap.size 60 zeroC (0, 0) _ rfl (hb0.out.row _) Tryz.underlying60 rfl (by kernel_rfl)) rfl ?_
    exact ⟨rfl, below_setRow hW0.out (Nat.le_refl _) _⟩
  · have hb1 := Lib.hid (Blk.new w0 60 zeroC)
    have hb0 := Lib.hid (hb0.out.alloc (.cells zeroC 60))
    have hW0 := Lib.hid (hW0.out.alloc (by omega) (.cells zeroC 60))
    have hz1 : (w0.alloc (.cells zeroC 60)).heap.size = w.heap.size + 1 + 1 := by simp [hz0]
    obtain ⟨w1, hst1⟩ : ∃ w1, w0.alloc (.cells zeroC 60) = w1 := ⟨_, rfl⟩
    rw [hst1] at hb0 hb1 hW0 hz1
    rw [hz0] at hb1
    have hb2 := Lib.hid (Blk.new w1 164 (codA 2 0 A l.length cap false))
    have hb1 := Lib.hid (hb1.out.alloc (.cells (codA 2 0 A l.length cap false) 164))
    have hb0 := Lib.hid (hb0.out.alloc (.cells (codA 2 0 A l.length cap false) 164))
    have hW0 := Lib.hid (hW0.out.alloc (by omega) (.cells (codA 2 0 A l.length cap false) 164))
    obtain ⟨w2, hst2⟩ : ∃ w2, w1.alloc (.cells (codA 2 0 A l.length cap false) 164) = w2 := ⟨_, rfl⟩
    rw [hst2] at hb0 hb1 hb2 hW0
    rw [hz1] at hb2
    have hle0 : w.heap.size ≤ w.heap.size + 1 := Nat.le_succ _
    have HC := Lib.hid (Cod.read (base := w.heap.size + 1) hb2.out rfl (by omega) ((HS.out.below hW0.out).more hle0))
    have HR := Lib.hid (show Rq w2 (w.heap.size + 1) (zeroR 0) from hb1.out)
    have HF := Lib.hid (show Fit (⟨2, l, 0, false⟩ : CS) 13 from ⟨.inr (.inr rfl), by simp, by simp, fun e => by simp at e, fun _ => by simp only; omega⟩)
    clear hb1 hb2
    have hd : dec l = dec2 (aheadS (⟨2, l, 0, false⟩, zeroR 0)) := by unfold dec; rw [if_neg hl]
    rw [hd]
    clear hd
    have hal := ahead_rest l (zeroR 0)
    have han := ahead_n l (zeroR 0)
    have ham := ahead_md (⟨2, l, 0, false⟩, zeroR 0)
    go_enter Tryz.func112, Tryz.ntmps112
    go_wp2_with fail
    refine (ahead_ok w2 (w.heap.size + 1) (w.heap.size + 1 + 1) (w.heap.size + 1) (⟨2, l, 0, false⟩, zeroR 0) HC.out HR.out (by omega) (Nat.le_refl _) 13 HF.out (by decide) (fun e => by simp at e)).mono ?_
    rintro e w3 ⟨rfl, hC, hR, hW⟩
    generalize aheadS (⟨2, l, 0, false⟩, zeroR 0) = p at *
    have HC := Lib.hid hC
    have HR := Lib.hid hR
    have HW := Lib.hid (hW0.out.trans (hW.mono hle0))
    have hb0 := Lib.hid (hb0.out.below hW (Nat.lt_succ_self _))
    have HAL := Lib.hid hal
    have HAM := Lib.hid ham
    have HAN := Lib.hid han
    clear hal ham han
    have c0 : w3.cell? ⟨w.heap.size + 1, 0, none⟩ = some (.int .i64 p.2.op) := Blk.is hR 0 rfl
    have hlt := Lib.hid (Blk.lt hR)
    clear hC hR hW hW0 hst0 hst1 hst2 hz0 hz1
    go_wp2_with fail
    have hn := needs_ok p.2.op w3
    unfold needsZ at hn
    by_cases hop : isOp p.2.op = true
    rotate_left
    · have hd : dec2 p = (zeroR 0, 51) := by unfold dec2; rw [if_pos (by simpa using hop)]
      rw [if_neg hop] at hn
      have HD := Lib.hid hd
      refine hn.mono ?_
      rintro e w4 ⟨rfl, hW⟩
      have hb0 := Lib.hid (hb0.out.below hW hb0.out.lt)
      have HC := Lib.hid (HC.out.keep hW)
      have HR := Lib.hid (HR.out.keep hW)
      have HW := Lib.hid (HW.out.trans (hW.mono (by have := hlt.out; omega)))
      have c0 : w4.cell? ⟨w.heap.size + 1, 0, none⟩ = some (.int .i64 p.2.op) := Blk.is HR.out 0 rfl
      obtain ⟨A4, cap4, hbc, -, -, hs4⟩ := HC.out
      rw [HAM.out] at hbc
      have HS4 := Lib.hid (hs4 (by rw [HAM.out]; decide))
      have hl1 := HS4.out.len
      unfold maxLen at hl1
      have e1 := hbc.is 1 rfl
      have e3 := hbc.is 3 rfl
      clear hW hbc hs4
      clear hd hop
      by_cases h3 : p.2.op = 3
      all_goals
        go_wp2_with (refine wpList_store_row rfl 60 (.tmp 2) (.tmp 27) rfl w.heap.size zeroC rfl rfl 60 zeroC hb0.out zero_size rfl zero_one ?_)
        refine bodyPost_ret (results_cell_tmp rfl _ _ w.heap.size 60 zeroC (0, 0) _ rfl (hb0.out.row _) Tryz.underlying60 rfl (by kernel_rfl)) rfl ?_
        exact ⟨by rw [HD.out]; rfl, below_setRow HW.out (Nat.le_refl _) _⟩
    · rw [if_pos hop] at hn
      have hN := fieldsN_le p.2.op
      obtain ⟨N, hNe⟩ : ∃ N, N = fieldsN p.2.op := ⟨_, rfl⟩
      rw [← hNe] at hn hN
      have HNe := Lib.hid hNe
      clear hNe
      refine hn.mono ?_
      rintro e w4 ⟨rfl, hW⟩
      have hb0 := Lib.hid (hb0.out.below hW hb0.out.lt)
      have HC := Lib.hid (HC.out.keep hW)
      have HR := Lib.hid (HR.out.keep hW)
      have HW := Lib.hid (HW.out.trans (hW.mono (by have := hlt.out; omega)))
      have c0 : w4.cell? ⟨w.heap.size + 1, 0, none⟩ = some (.int .i64 p.2.op) := Blk.is HR.out 0 rfl
      obtain ⟨A4, cap4, hbc, -, -, hs4⟩ := HC.out
      rw [HAM.out] at hbc
      have HS4 := Lib.hid (hs4 (by rw [HAM.out]; decide))
      have hl1 := HS4.out.len
      unfold maxLen at hl1
      have e1 := hbc.is 1 rfl
      have e3 := hbc.is 3 rfl
      clear hW hbc hs4
      by_cases hbad : p.1.bad = true
      · have hd : dec2 p = (zeroR 0, 33) := by unfold dec2; rw [if_neg (by rw [hop]; decide), if_pos hbad]
        have HD := Lib.hid hd
        rw [hbad] at e3
        clear hd hop
        by_cases h3 : p.2.op = 3
        all_goals
          go_wp2_with (refine wpList_store_row rfl 60 (.tmp 2) (.tmp 33) rfl w.heap.size zeroC rfl rfl 60 zeroC hb0.out zero_size rfl zero_one ?_)
          refine bodyPost_ret (results_cell_tmp rfl _ _ w.heap.size 60 zeroC (0, 0) _ rfl (hb0.out.row _) Tryz.underlying60 rfl (by kernel_rfl)) rfl ?_
          exact ⟨by rw [HD.out]; rfl, below_setRow HW.out (Nat.le_refl _) _⟩
      rw [Bool.not_eq_true] at hbad
      by_cases hsh : p.1.l.length < N
      · have hd : dec2 p = (zeroR 0, 50) := by unfold dec2; rw [if_neg (by rw [hop]; decide), if_neg (by rw [hbad]; decide), if_pos (by rw [← HNe.out]; exact hsh)]
        have HD := Lib.hid hd
        rw [hbad] at e3
        clear hd hop
        have hsh' : ((p.1.l.length : Nat) : Int) < (N : Int) := by omega
        have hshb : decide (((p.1.l.length : Nat) : Int) < (N : Int)) = true := decide_eq_true hsh'
        by_cases h3 : p.2.op = 3
        all_goals
          go_wp2_with (refine wpList_store_row rfl 60 (.tmp 2) (.tmp 42) rfl w.heap.size zeroC rfl rfl 60 zeroC hb0.out zero_size rfl zero_one ?_)
          refine bodyPost_ret (results_cell_tmp rfl _ _ w.heap.size 60 zeroC (0, 0) _ rfl (hb0.out.row _) Tryz.underlying60 rfl (by kernel_rfl)) rfl ?_
          exact ⟨by rw [HD.out]; rfl, below_setRow HW.out (Nat.le_refl _) _⟩
      have hsh' : ¬ ((p.1.l.length : Nat) : Int) < (N : Int) := by omega
      have hm3 : (if p.2.op = 3 then 512 else fieldsN p.2.op) = (if p.2.op = 3 then 512 else N) := by rw [HNe.out]
      by_cases hlo : (if p.2.op = 3 then 512 else N) < p.1.l.length
      · have hd : dec2 p = (zeroR 0, 2) := by unfold dec2; rw [if_neg (by rw [hop]; decide), if_neg (by rw [hbad]; decide), if_neg (by rw [← HNe.out]; exact hsh), if_pos (by rw [hm3]; exact hlo)]
        have HD := Lib.hid hd
        rw [hbad] at e3
        clear hd hop hm3
        by_cases h3 : p.2.op = 3
        · rw [if_pos h3] at hlo
          have hlo' : (512 : Int) < ((p.1.l.length : Nat) : Int) := by omega
          go_wp2_with (refine wpList_store_row rfl 60 (.tmp 2) (.tmp 51) rfl w.heap.size zeroC rfl rfl 60 zeroC hb0.out zero_size rfl zero_one ?_)
          refine bodyPost_ret (results_cell_tmp rfl _ _ w.heap.size 60 zeroC (0, 0) _ rfl (hb0.out.row _) Tryz.underlying60 rfl (by kernel_rfl)) rfl ?_
          exact ⟨by rw [HD.out]; rfl, below_setRow HW.out (Nat.le_refl _) _⟩
        · rw [if_neg h3] at hlo
          have hlo' : (N : Int) < ((p.1.l.length : Nat) : Int) := by omega
          go_wp2_with (refine wpList_store_row rfl 60 (.tmp 2) (.tmp 51) rfl w.heap.size zeroC rfl rfl 60 zeroC hb0.out zero_size rfl zero_one ?_)
          refine bodyPost_ret (results_cell_tmp rfl _ _ w.heap.size 60 zeroC (0, 0) _ rfl (hb0.out.row _) Tryz.underlying60 rfl (by kernel_rfl)) rfl ?_
          exact ⟨by rw [HD.out]; rfl, below_setRow HW.out (Nat.le_refl _) _⟩
      have HF4 := Lib.hid (show Fit p.1 (fieldsN p.2.op) from ⟨.inr (.inr HAM.out), by rw [HAN.out]; decide, by rw [HAN.out, ← HNe.out]; omega, fun e => absurd (HAM.out.symm.trans e) (by simp), fun _ => by rw [← HNe.out]; omega⟩)
      have hm2 : p.1.m = 0 → False := fun e => absurd (HAM.out.symm.trans e) (by simp)
      have HM2 := Lib.hid hm2
      rw [hbad] at e3
      have HOP := Lib.hid hop
      have HBAD := Lib.hid hbad
      have HSH := Lib.hid hsh
      have HLO := Lib.hid hlo
      have HM3 := Lib.hid hm3
      clear hm2 hop hbad hsh hm3
      by_cases h3 : p.2.op = 3
      · rw [if_pos h3] at hlo
        have hlo' : ¬ (512 : Int) < ((p.1.l.length : Nat) : Int) := by omega
        go_wp2_with fail
        refine (fields_ok w4 (w.heap.size + 1) (w.heap.size + 1 + 1) (w.heap.size + 1) p HC.out HR.out (by omega) (Nat.le_refl _) HF4.out (fun e => (HM2.out e).elim) (fun e => (HM2.out e).elim)).mono ?_
        rintro e w5 ⟨rfl, hC, hR, hW⟩
        have hb0 := Lib.hid (hb0.out.below hW (Nat.lt_succ_self _))
        have HW := Lib.hid (HW.out.trans (hW.mono hle0))
        have HR5 := Lib.hid hR
        obtain ⟨A5, cap5, hbc5, -, -, -⟩ := hC
        have b3 := hbc5.is 3 rfl
        clear hbc5 hW hR e1 e3 c0
        by_cases hb5 : (fieldsS p).1.bad = true
        · have HD := Lib.hid (show dec2 p = (zeroR 0, 33) by unfold dec2; rw [if_neg (by rw [HOP.out]; decide), if_neg (by rw [HBAD.out]; decide), if_neg (by rw [← HNe.out]; exact HSH.out), if_neg (by rw [HM3.out]; exact HLO.out), if_pos (.inl hb5)])
          rw [hb5] at b3
          go_wp2_with (refine wpList_store_row rfl 60 (.tmp 2) (.tmp 63) rfl w.heap.size zeroC rfl rfl 60 zeroC hb0.out zero_size rfl zero_one ?_)
          refine bodyPost_ret (results_cell_tmp rfl _ _ w.heap.size 60 zeroC (0, 0) _ rfl (hb0.out.row _) Tryz.underlying60 rfl (by kernel_rfl)) rfl ?_
          exact ⟨by rw [HD.out]; rfl, below_setRow HW.out (Nat.le_refl _) _⟩
        · rw [Bool.not_eq_true] at hb5
          rw [hb5] at b3
          go_wp2_with (refine load_rowG rfl 60 (.tmp 4) rfl (w.heap.size + 1) rfl 60 (rqC (fieldsS p).2) (0, 0) _ HR5.out Tryz.underlying60 rfl (rq_size _) ?_)
          refine (boxed_ok (fieldsS p).2 w5).mono ?_
          rintro e w6 ⟨rfl, hW⟩
          have hb0 := Lib.hid (hb0.out.below hW hb0.out.lt)
          have HR6 := Lib.hid (HR5.out.keep hW)
          have HW := Lib.hid (HW.out.trans (hW.mono (Nat.le_of_lt (Nat.lt_of_succ_lt (Blk.lt HR5.out)))))
          clear hW
          by_cases hbx : boxedB (fieldsS p).2 = true
          · have HD := Lib.hid (show dec2 p = ((fieldsS p).2, 0) by unfold dec2; rw [if_neg (by rw [HOP.out]; decide), if_neg (by rw [HBAD.out]; decide), if_neg (by rw [← HNe.out]; exact HSH.out), if_neg (by rw [HM3.out]; exact HLO.out), if_neg (by rw [hb5, hbx]; decide)])
            rw [hbx]
            go_wp2_with (first | (refine wpList_load_row rfl 60 (.tmp 4) rfl (w.heap.size + 1) rfl 60 (rqC (fieldsS p).2) (0, 0) _ HR6.out Tryz.underlying60 rfl (rq_size _) ?_) | (refine wpList_store_row rfl 60 (.tmp 2) (.tmp 64) rfl w.heap.size (rqC (fieldsS p).2) rfl rfl 60 zeroC hb0.out (rq_size _) rfl (rq_one _) ?_))
            refine bodyPost_ret (results_cell_tmp rfl _ _ w.heap.size 60 (rqC (fieldsS p).2) (0, 0) _ rfl (hb0.out.row _) Tryz.underlying60 rfl (rq_size _)) rfl ?_
            exact ⟨by rw [HD.out]; rfl, below_setRow HW.out (Nat.le_refl _) _⟩
          · rw [Bool.not_eq_true] at hbx
            have HD := Lib.hid (show dec2 p = (zeroR 0, 33) by unfold dec2; rw [if_neg (by rw [HOP.out]; decide), if_neg (by rw [HBAD.out]; decide), if_neg (by rw [← HNe.out]; exact HSH.out), if_neg (by rw [HM3.out]; exact HLO.out), if_pos (.inr hbx)])
            rw [hbx]
            go_wp2_with (refine wpList_store_row rfl 60 (.tmp 2) (.tmp 63) rfl w.heap.size zeroC rfl rfl 60 zeroC hb0.out zero_size rfl zero_one ?_)
            refine bodyPost_ret (results_cell_tmp rfl _ _ w.heap.size 60 zeroC (0, 0) _ rfl (hb0.out.row _) Tryz.underlying60 rfl (by kernel_rfl)) rfl ?_
            exact ⟨by rw [HD.out]; rfl, below_setRow HW.out (Nat.le_refl _) _⟩
      · rw [if_neg h3] at hlo
        have hlo' : ¬ (N : Int) < ((p.1.l.length : Nat) : Int) := by omega
        go_wp2_with fail
        refine (fields_ok w4 (w.heap.size + 1) (w.heap.size + 1 + 1) (w.heap.size + 1) p HC.out HR.out (by omega) (Nat.le_refl _) HF4.out (fun e => (HM2.out e).elim) (fun e => (HM2.out e).elim)).mono ?_
        rintro e w5 ⟨rfl, hC, hR, hW⟩
        have hb0 := Lib.hid (hb0.out.below hW (Nat.lt_succ_self _))
        have HW := Lib.hid (HW.out.trans (hW.mono hle0))
        have HR5 := Lib.hid hR
        obtain ⟨A5, cap5, hbc5, -, -, -⟩ := hC
        have b3 := hbc5.is 3 rfl
        clear hbc5 hW hR e1 e3 c0
        by_cases hb5 : (fieldsS p).1.bad = true
        · have HD := Lib.hid (show dec2 p = (zeroR 0, 33) by unfold dec2; rw [if_neg (by rw [HOP.out]; decide), if_neg (by rw [HBAD.out]; decide), if_neg (by rw [← HNe.out]; exact HSH.out), if_neg (by rw [HM3.out]; exact HLO.out), if_pos (.inl hb5)])
          rw [hb5] at b3
          go_wp2_with (refine wpList_store_row rfl 60 (.tmp 2) (.tmp 63) rfl w.heap.size zeroC rfl rfl 60 zeroC hb0.out zero_size rfl zero_one ?_)
          refine bodyPost_ret (results_cell_tmp rfl _ _ w.heap.size 60 zeroC (0, 0) _ rfl (hb0.out.row _) Tryz.underlying60 rfl (by kernel_rfl)) rfl ?_
          exact ⟨by rw [HD.out]; rfl, below_setRow HW.out (Nat.le_refl _) _⟩
        · rw [Bool.not_eq_true] at hb5
          rw [hb5] at b3
          go_wp2_with (refine load_rowG rfl 60 (.tmp 4) rfl (w.heap.size + 1) rfl 60 (rqC (fieldsS p).2) (0, 0) _ HR5.out Tryz.underlying60 rfl (rq_size _) ?_)
          refine (boxed_ok (fieldsS p).2 w5).mono ?_
          rintro e w6 ⟨rfl, hW⟩
          have hb0 := Lib.hid (hb0.out.below hW hb0.out.lt)
          have HR6 := Lib.hid (HR5.out.keep hW)
          have HW := Lib.hid (HW.out.trans (hW.mono (Nat.le_of_lt (Nat.lt_of_succ_lt (Blk.lt HR5.out)))))
          clear hW
          by_cases hbx : boxedB (fieldsS p).2 = true
          · have HD := Lib.hid (show dec2 p = ((fieldsS p).2, 0) by unfold dec2; rw [if_neg (by rw [HOP.out]; decide), if_neg (by rw [HBAD.out]; decide), if_neg (by rw [← HNe.out]; exact HSH.out), if_neg (by rw [HM3.out]; exact HLO.out), if_neg (by rw [hb5, hbx]; decide)])
            rw [hbx]
            go_wp2_with (first | (refine wpList_load_row rfl 60 (.tmp 4) rfl (w.heap.size + 1) rfl 60 (rqC (fieldsS p).2) (0, 0) _ HR6.out Tryz.underlying60 rfl (rq_size _) ?_) | (refine wpList_store_row rfl 60 (.tmp 2) (.tmp 64) rfl w.heap.size (rqC (fieldsS p).2) rfl rfl 60 zeroC hb0.out (rq_size _) rfl (rq_one _) ?_))
            refine bodyPost_ret (results_cell_tmp rfl _ _ w.heap.size 60 (rqC (fieldsS p).2) (0, 0) _ rfl (hb0.out.row _) Tryz.underlying60 rfl (rq_size _)) rfl ?_
            exact ⟨by rw [HD.out]; rfl, below_setRow HW.out (Nat.le_refl _) _⟩
          · rw [Bool.not_eq_true] at hbx
            have HD := Lib.hid (show dec2 p = (zeroR 0, 33) by unfold dec2; rw [if_neg (by rw [HOP.out]; decide), if_neg (by rw [HBAD.out]; decide), if_neg (by rw [← HNe.out]; exact HSH.out), if_neg (by rw [HM3.out]; exact HLO.out), if_pos (.inr hbx)])
            rw [hbx]
            go_wp2_with (refine wpList_store_row rfl 60 (.tmp 2) (.tmp 63) rfl w.heap.size zeroC rfl rfl 60 zeroC hb0.out zero_size rfl zero_one ?_)
            refine bodyPost_ret (results_cell_tmp rfl _ _ w.heap.size 60 zeroC (0, 0) _ rfl (hb0.out.row _) Tryz.underlying60 rfl (by kernel_rfl)) rfl ?_
            exact ⟨by rw [HD.out]; rfl, below_setRow HW.out (Nat.le_refl _) _⟩
end Go.Proofs.YtldjgpnbkbmgoaaGreatDoor
