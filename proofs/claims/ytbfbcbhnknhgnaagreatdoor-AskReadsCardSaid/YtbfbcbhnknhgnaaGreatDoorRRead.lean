/-
  The reference's Read. Conditions: the text is at most 3000 bytes long.
-/
import Derived.Test.YtbfbcbhnknhgnaaGreatDoorRReadP
import Derived.Test.YtbfbcbhnknhgnaaGreatDoorLawEnc
import Derived.Deep.RegionWith
namespace Go.Proofs.YtbfbcbhnknhgnaaGreatDoor
open Go.RowKit
attribute [local go_sem ↓] load_req stop_req

/-! What the request is made of -/
theorem nI_lt (op : Nat) (ws : List (List UInt8)) (i : Nat) : (nI op ws i).1 < 18446744073709551616 := by
  unfold nI
  split
  · exact rhx_lt _
  · exact rpar_lt _
theorem nums_len (op : Nat) (ws : List (List UInt8)) (k : Nat) : (numsT op ws k).length = k := by simp [numsT]
theorem nums_get {op : Nat} {ws : List (List UInt8)} {k i x : Nat} (h : (numsT op ws k)[i]? = some x) : i < k ∧ x = (nI op ws i).1 := by
  obtain ⟨hi, rfl⟩ := List.getElem?_eq_some_iff.1 h
  have hk : i < k := by simpa [numsT] using hi
  refine ⟨hk, ?_⟩
  simp [numsT]
theorem nums_succ (op : Nat) (ws : List (List UInt8)) (k : Nat) : numsT op ws (k + 1) = numsT op ws k ++ [(nI op ws k).1] := by simp [numsT, List.range_succ]
theorem wide_not3 {op : Nat} (h : op ≠ 3) : wideL op = widths (op : Int) := by unfold wideL; rw [if_neg h]
theorem widths_8 : ∀ op, op < 20 → ∀ i, i < 7 → (widths ((op : Nat) : Int)).getD i 0 = 8 → op = 6 ∨ (op = 7 ∧ i = 1) := by decide +kernel
theorem widths_len7 : ∀ op, op < 20 → (widths ((op : Nat) : Int)).length ≤ 7 := by decide +kernel
theorem nums_small {op : Nat} {ws : List (List UInt8)} {L i : Nat} (h3 : op ≠ 3) (hL : L = (widths (op : Int)).length) (hf : ∀ j, j < L → fineI op ws j = true) (hi : i < L) (h8 : (widths (op : Int)).getD i 0 ≠ 8) : (nI op ws i).1 < 4294967296 := by
  have h := hf i hi
  unfold fineI at h
  rw [Bool.and_eq_true, okV_iff, wide_not3 h3] at h
  have hm : (widths (op : Int)).getD i 0 ∈ widths (op : Int) := by
    rw [List.getD_eq_getElem?_getD, List.getElem?_eq_getElem (by omega)]
    exact List.getElem_mem _
  have := widths_1248 _ _ hm
  omega
theorem with_okR (h : Req) (v : List Nat) (t : List UInt8) (hh : h.ok) (hv : ∀ i, v.getD i 0 < 18446744073709551616) : (withR h v t).ok := by
  have e : (18446744073709551616 : Nat) = 256 ^ 8 := by decide
  rw [e] at hv
  unfold withR
  repeat' refine ite_R (p := Req.ok) ?_ ?_
  all_goals first | exact hh | exact ⟨hh.1, hv 0, hh.2.2⟩ | exact ⟨hh.1, hh.2.1, hv 1⟩
theorem ite_Rh {p : Req → Prop} {c : Prop} [Decidable c] {a b : Req} (h1 : c → p a) (h2 : ¬ c → p b) : p (if c then a else b) := by
  split
  · rename_i h; exact h1 h
  · rename_i h; exact h2 h
set_option maxHeartbeats 2000000 in
theorem with_ib (h : Req) (v : List Nat) (t : List UInt8) (hh : h.ib) (hv : ∀ i, v.getD i 0 < 9223372036854775808 ∨ h.op = 6 ∨ h.op = 3 ∨ (h.op = 7 ∧ i = 1)) : (withR h v t).ib := by
  have H0 := hv 0
  have H1 := hv 1
  have H2 := hv 2
  have H3 := hv 3
  have H4 := hv 4
  have H5 := hv 5
  have H6 := hv 6
  clear hv
  unfold Req.ib at hh
  simp only [List.forall_mem_cons, List.not_mem_nil, false_implies, implies_true, and_true] at hh
  unfold withR
  repeat' refine ite_Rh (p := Req.ib) (fun _ => ?_) (fun _ => ?_)
  all_goals
    unfold Req.ib
    simp only [List.forall_mem_cons, List.not_mem_nil, false_implies, implies_true, and_true]
    omega
theorem hdT_ib {ws : List (List UInt8)} {op : Nat} (h : ¬ badH ws op) (ho : op ≤ 19) : (hdT ws op).ib := by
  unfold badH at h
  unfold Req.ib hdT zeroR
  simp only [List.forall_mem_cons, List.not_mem_nil, false_implies, implies_true, and_true]
  omega
theorem hdT_ok (ws : List (List UInt8)) (op : Nat) : (hdT ws op).ok := ⟨Nat.lt_of_lt_of_eq (rhx_lt _) (by decide), by show 0 < 256 ^ 8; decide, by show 0 < 256 ^ 8; decide⟩
theorem opT_le (ws : List (List UInt8)) : opT ws ≤ 19 := opN_lt _ 20
/-- What is read fits the reference's Bytes. -/
theorem qT_fits {ws : List (List UInt8)} {op : Nat} (ho : op ≤ 19) (hb : ¬ badH ws op) (hl : ∀ x ∈ ws, x.length ≤ 100000) (hf : ∀ j, j < (wideL op).length → fineI op ws j = true) :
    (withR (hdT ws op) (numsT op ws (wideL op).length) (txT op ws)).fits ∧ (withR (hdT ws op) (numsT op ws (wideL op).length) (txT op ws)).ib := by
  have hn : ∀ i, (numsT op ws (wideL op).length).getD i 0 < 18446744073709551616 := fun i => by
    rw [List.getD_eq_getElem?_getD]
    cases h : (numsT op ws (wideL op).length)[i]? with
    | none => simp
    | some x => rw [(nums_get h).2]; exact nI_lt _ _ _
  have htx : (txT op ws).length ≤ 100000 := by
    unfold txT
    split
    · have h5 : (ws.getD 5 []).length ≤ 100000 := by
        rw [List.getD_eq_getElem?_getD]
        cases h : ws[5]? with
        | none => simp
        | some x => exact hl x (List.mem_of_getElem? h)
      have := unq_len (ws.getD 5 [])
      omega
    · simp
  refine ⟨⟨with_okR _ _ _ (hdT_ok ws op) hn, ?_⟩, with_ib _ _ _ (hdT_ib hb ho) fun i => ?_⟩
  · rcases withR_tx (hdT ws op) (numsT op ws (wideL op).length) (txT op ws) rfl with h | h <;> rw [h]
    · simp
    · omega
  · by_cases h3 : op = 3
    · exact .inr (.inr (.inl (by subst h3; rfl)))
    · rw [List.getD_eq_getElem?_getD]
      cases h : (numsT op ws (wideL op).length)[i]? with
      | none => left; simp
      | some x =>
        obtain ⟨hi, rfl⟩ := nums_get h
        have hw := wide_not3 h3
        rw [hw] at hi
        have h7 := widths_len7 op (by omega)
        by_cases h8 : (widths (op : Int)).getD i 0 = 8
        · rcases widths_8 op (by omega) i (by omega) h8 with rfl | ⟨rfl, rfl⟩
          · exact .inr (.inl rfl)
          · exact .inr (.inr (.inr ⟨rfl, rfl⟩))
        · left
          have := nums_small (L := (widths (op : Int)).length) h3 rfl (fun j hj => hf j (by rw [hw]; exact hj)) hi h8
          simp
          omega

/-! The walk -/
/-- The text behind i rounds. -/
def txI (op : Nat) (ws : List (List UInt8)) (i : Nat) : List UInt8 := if 0 < i then txT op ws else []
theorem withT_ok (ws : List (List UInt8)) (op : Nat) (hop : isOp (op : Int) = true) (hf : ∀ j, j < (wideL op).length → fineI op ws j = true) (s : Value) (w : World) (hs : Sl u8C w w.heap.size s (numsT op ws (wideL op).length)) :
    Calls Tryz.prog 41 #[.agg (rqC (hdT ws op)), s, strV (txT op ws)] w (WPost w (withR (hdT ws op) (numsT op ws (wideL op).length) (txT op ws))) := by
  by_cases h3 : op = 3
  · subst h3
    have e : withR (hdT ws 3) (numsT 3 ws (wideL 3).length) (txT 3 ws) = { hdT ws 3 with txt := txT 3 ws } := rfl
    rw [e]
    exact with_3 (hdT ws 3) rfl _ _ s w hs
  · have hw := wide_not3 h3
    refine with_ok (hdT ws op) hop _ _ s w hs (by rw [nums_len, hw]; rfl) fun i x hx h4 => ?_
    obtain ⟨hi, rfl⟩ := nums_get hx
    rw [hw] at hi
    refine nums_small (L := (widths (op : Int)).length) h3 rfl (fun j hj => hf j (by rw [hw]; exact hj)) hi fun h8 => ?_
    have e : (widths (hdT ws op).op).getD i 8 = (widths (op : Int)).getD i 0 := by
      show (widths (op : Int)).getD i 8 = _
      rw [List.getD_eq_getElem?_getD, List.getD_eq_getElem?_getD, List.getElem?_eq_getElem hi]
      rfl
    omega
def RRPost (w : World) (s : List UInt8) (e : Ending) (w' : World) : Prop := ∃ q b, e = .returned (.tuple #[.agg (rqC q), .bool b]) ∧ Below w.heap.size w w' ∧ ((b = true ∧ RG s ∧ q = qT (splitL s)) ∨ (b = false ∧ q = zeroR 0 ∧ ¬ RG s))
/-- Where the reference's Read stands. -/
structure RR (w wx : World) (b off : Nat) (ws : List (List UInt8)) : Prop where
  res : Blk wx w.heap.size 30 zeroC
  zer : Blk wx (w.heap.size + 1) 30 (rqC (zeroR 0))
  lay : Lay wx b off (ws.flatMap stC)
  lt : b < wx.heap.size
  bel : Below w.heap.size w wx
theorem RR.below {w wx wy : World} {b off : Nat} {ws : List (List UInt8)} (h : RR w wx b off ws) (hb : Below wx.heap.size wx wy) : RR w wy b off ws :=
  ⟨h.res.below hb h.res.lt, h.zer.below hb h.zer.lt, h.lay.of_heap (hb.block b h.lt), Nat.lt_of_lt_of_le h.lt hb.size, h.bel.trans (hb.mono h.bel.size)⟩
theorem RR.drew {w wx : World} {b off : Nat} {ws : List (List UInt8)} (h : RR w wx b off ws) : RR w wx.drew b off ws := ⟨h.res, h.zer, h.lay, h.lt, below_drew h.bel⟩
theorem RR.word {w wx : World} {b off : Nat} {ws : List (List UInt8)} (h : RR w wx b off ws) (i : Nat) (hi : i < ws.length) : wx.cell? ⟨b, off + i, none⟩ = some (strV (ws.getD i [])) := by
  have := (h.lay.elem stC_len i hi).st
  rw [Nat.mul_one] at this
  rw [this, List.getD_eq_getElem?_getD, List.getElem?_eq_getElem hi]
  rfl
theorem RR.farRow {w wx : World} {b off qb : Nat} {ws : List (List UInt8)} (h : RR w wx b off ws) (h1 : w.heap.size + 1 < qb) (h2 : b < qb) (cs : Array Value) : RR w (wx.setRow qb cs) b off ws :=
  ⟨h.res.farRow (by omega) cs, h.zer.farRow (by omega) cs, h.lay.of_heap (setRow_other _ _ _ _ (by omega)), by have := h.lt; simpa using this, below_setRow h.bel (by omega) cs⟩
/-- .. with the request in block qb. -/
structure R2 (w wx : World) (b off : Nat) (ws : List (List UInt8)) (qb : Nat) (q : Req) : Prop where
  rr : RR w wx b off ws
  blk : Blk wx qb 30 (rqC q)
  lt : w.heap.size + 1 < qb
  bq : b < qb
theorem R2.below {w wx wy : World} {b off qb : Nat} {ws : List (List UInt8)} {q : Req} (h : R2 w wx b off ws qb q) (hb : Below wx.heap.size wx wy) : R2 w wy b off ws qb q := ⟨h.rr.below hb, h.blk.below hb h.blk.lt, h.lt, h.bq⟩
theorem R2.set {w wx : World} {b off qb : Nat} {ws : List (List UInt8)} {q : Req} (h : R2 w wx b off ws qb q) (q' : Req) : R2 w (wx.setRow qb (rqC q')) b off ws qb q' := ⟨h.rr.farRow h.lt h.bq _, h.blk.row _, h.lt, h.bq⟩
theorem Lay.inw {w : World} {b off : Nat} {l : List Nat} (h : Lay w b off (l.flatMap inC)) (i : Nat) (hi : i < l.length) : w.cell? ⟨b, off + i, none⟩ = some (.int .i64 ((l.getD i 0 : Nat) : Int)) := by
  have := (h.elem inC_len i hi).inn
  rw [Nat.mul_one] at this
  rw [this, List.getD_eq_getElem?_getD, List.getElem?_eq_getElem hi]
  rfl
instance (ws : List (List UInt8)) (op : Nat) : Decidable (badH ws op) := by unfold badH; exact inferInstance

set_option maxRecDepth 100000 in
set_option maxHeartbeats 8000000 in
theorem rread_ok (l : List UInt8) (w : World) (hl : l.length ≤ 3000) : Calls Tryz.prog 10 #[strV l] w (RRPost w l) := by
  obtain ⟨ws, hws⟩ : ∃ ws, ws = splitL l := ⟨_, rfl⟩
  have hwl := (splitL_few l).2
  have hwn := (splitL_few l).1
  have hw0 : ws ≠ [] := by rw [hws]; exact splitL_ne l
  rw [← hws] at hwl hwn
  have hb0 := Blk.new w 30 zeroC
  have hW0 := (Below.refl w.heap.size w).alloc (Nat.le_refl _) (.cells zeroC 30)
  obtain ⟨r0, hr0⟩ : ∃ r0, w.heap.size = r0 := ⟨_, rfl⟩
  have hz0 : (w.alloc (.cells zeroC 30)).heap.size = r0 + 1 := by simp [hr0]
  obtain ⟨w0, hst0⟩ : ∃ w0, w.alloc (.cells zeroC 30) = w0 := ⟨_, rfl⟩
  rw [hst0] at hb0 hW0 hz0
  have hb1 := Blk.new w0 30 zeroC
  have hB0 := hb0.alloc (.cells zeroC 30)
  have hW1 := hW0.alloc (by omega) (.cells zeroC 30)
  have hz1 : (w0.alloc (.cells zeroC 30)).heap.size = r0 + 2 := by simp [hz0]
  obtain ⟨w1, hst1⟩ : ∃ w1, w0.alloc (.cells zeroC 30) = w1 := ⟨_, rfl⟩
  rw [hst1] at hb1 hB0 hW1 hz1
  rw [hz0] at hb1
  have HB0 := Lib.hid hB0
  have HB1 := Lib.hid hb1
  have HW1 := Lib.hid hW1
  have HR0 := Lib.hid hr0
  have HZ1 := Lib.hid hz1
  have HWL := Lib.hid hwl
  have HWS := Lib.hid hws
  clear hb0 hW0 hb1 hB0 hW1 hwl hz1
  go_enter Tryz.func10, Tryz.ntmps10
  go_wp2_with fail
  refine (rsplit_ok l w1 (by omega)).mono ?_
  rintro e w2 ⟨v, rfl, hs, hb⟩
  rw [← HWS.out] at hs
  obtain ⟨A, cap, rfl, hs1, hs2, hs3⟩ := hs
  obtain ⟨b, off, rfl, hbb, hlay⟩ := hs3 (List.length_pos_iff.2 hw0)
  unfold maxLen at hs2
  have hrr : RR w w2 b off ws := ⟨HB0.out.below hb (by have := HZ1.out; have := HR0.out; omega), by rw [HR0.out]; exact HB1.out.below hb (by have := HZ1.out; omega), hlay, hbb, HW1.out.trans (hb.mono (by have := HZ1.out; have := HR0.out; omega))⟩
  have HP := Lib.hid hrr
  clear hs3 hlay hbb hb hrr hst0 hst1 hz0 HB0 HB1 HW1 HZ1 hr0 hws
  by_cases h5 : ws.length < 5
  · have h5' : (ws.length : Int) < 5 := by omega
    have HNO := Lib.hid (show ¬ RG l from fun h => by have := h.len5; rw [← HWS.out] at this; omega)
    have l4 := loadReq_row HP.out.zer
    rw [HR0.out] at l4
    have HRB := Lib.hid HP.out.res
    rw [HR0.out] at HRB
    go_wp2_with (refine wpList_store_row rfl 30 (.tmp 2) (.tmp 31) rfl r0 (rqC (zeroR 0)) rfl rfl 30 zeroC HRB.out (rq_size _) rfl (rq_one _) ?_)
    refine bodyPost_ret (results_cell_tmp rfl _ _ r0 30 (rqC (zeroR 0)) (0, 0) _ rfl (HRB.out.row _) Tryz.underlying30 rfl (rq_size _)) rfl ?_
    exact ⟨zeroR 0, false, rfl, below_setRow HP.out.bel (by rw [HR0.out]; exact Nat.le_refl _) _, .inr ⟨rfl, rfl, HNO.out⟩⟩
  · have h5' : (5 : Int) ≤ (ws.length : Int) := by omega
    have n4 : (4 : Int) < (ws.length : Int) := by omega
    have n3 : (3 : Int) < (ws.length : Int) := by omega
    have n2 : (2 : Int) < (ws.length : Int) := by omega
    have n1 : (1 : Int) < (ws.length : Int) := by omega
    have n0 : (0 : Int) < (ws.length : Int) := by omega
    have c0 := HP.out.word 0 (by omega)
    have c1 := HP.out.word 1 (by omega)
    have c2 := HP.out.word 2 (by omega)
    have c3 := HP.out.word 3 (by omega)
    rw [Nat.add_zero] at c0
    have HLEN := Lib.hid (fun i => (show (ws.getD i []).length ≤ 1000000 by
      rw [List.getD_eq_getElem?_getD]
      cases h : ws[i]? with
      | none => simp
      | some x => have := HWL.out x (List.mem_of_getElem? h); simp; omega))
    have HLEN5 := Lib.hid (fun i => (show (ws.getD i []).length ≤ 100000 by
      rw [List.getD_eq_getElem?_getD]
      cases h : ws[i]? with
      | none => simp
      | some x => have := HWL.out x (List.mem_of_getElem? h); simp; omega))
    obtain ⟨t, e0, hp0⟩ : ∃ t e, rpar (ws.getD 0 []) = (t, e) := ⟨_, _, rfl⟩
    obtain ⟨u, e1, hp1⟩ : ∃ t e, rpar (ws.getD 1 []) = (t, e) := ⟨_, _, rfl⟩
    obtain ⟨m, e3, hp3⟩ : ∃ t e, rpar (ws.getD 3 []) = (t, e) := ⟨_, _, rfl⟩
    obtain ⟨sec, ok, hp2⟩ : ∃ t e, rhx (ws.getD 2 []) = (t, e) := ⟨_, _, rfl⟩
    have he0 := rpar_e (ws.getD 0 [])
    have he1 := rpar_e (ws.getD 1 [])
    have he3 := rpar_e (ws.getD 3 [])
    have bt := rpar_lt (ws.getD 0 [])
    have bu := rpar_lt (ws.getD 1 [])
    have bm := rpar_lt (ws.getD 3 [])
    have bs := rhx_lt (ws.getD 2 [])
    rw [hp0] at he0 bt
    rw [hp1] at he1 bu
    rw [hp3] at he3 bm
    rw [hp2] at bs
    have HP0 := Lib.hid hp0
    have HP1 := Lib.hid hp1
    have HP2 := Lib.hid hp2
    have HP3 := Lib.hid hp3
    have HE0 := Lib.hid he0
    have HE1 := Lib.hid he1
    have HE3 := Lib.hid he3
    dsimp only at bt bu bm bs
    clear hp0 hp1 hp2 hp3 he0 he1 he3 h5
    go_wp2_with fail
    refine (rparse_ok (ws.getD 0 []) w2 (HLEN.out 0)).mono ?_
    rintro e w' ⟨rfl, hw'⟩
    rw [hw']
    clear hw' w'
    rw [HP0.out]
    clear c0
    go_wp2_with fail
    refine (rparse_ok (ws.getD 1 []) w2 (HLEN.out 1)).mono ?_
    rintro e w' ⟨rfl, hw'⟩
    rw [hw']
    clear hw' w'
    rw [HP1.out]
    clear c1
    go_wp2_with fail
    refine (rparse_ok (ws.getD 3 []) w2 (HLEN.out 3)).mono ?_
    rintro e w' ⟨rfl, hw'⟩
    rw [hw']
    clear hw' w'
    rw [HP3.out]
    clear c3
    go_wp2_with fail
    refine (rhex26_ok (ws.getD 2 []) w2 (HLEN.out 2)).mono ?_
    rintro e w' ⟨rfl, hw'⟩
    rw [hw']
    clear hw' w'
    rw [HP2.out]
    clear c2
    obtain ⟨a4, ha4⟩ : ∃ a, a = ws.getD 4 [] := ⟨_, rfl⟩
    have HA4 := Lib.hid ha4
    clear ha4
    go_wp2_with fail
    go_loopw [14, 15] (fun ov iv wr => ∃ i, 1 ≤ i ∧ i ≤ 20 ∧ iv = .int .i64 (i : Nat) ∧ ov = .int .i64 (opN a4 i : Nat) ∧ RR w wr b off ws) (fun _ iv _ => (20 - intOf iv).toNat)
    case atStart => exact ⟨1, Nat.le_refl _, by omega, rfl, rfl, HP.out⟩
    case round =>
      obtain ⟨i, hi1, hi2, rfl, rfl, hrr⟩ := hrel
      by_cases hlt : i < 20
      · as_aux_lemma =>
          have hlti : (i : Int) < 20 := by omega
          have HQ := Lib.hid hrr
          have c4 := hrr.word 4 (by omega)
          rw [← HA4.out] at c4
          have c4d : wr.drew.cell? ⟨b, off + 4, none⟩ = some (strV a4) := c4
          have hil : i < rlopsL.length := hlt
          obtain ⟨x, hx⟩ : ∃ x, x = rlopsL.getD i [] := ⟨_, rfl⟩
          have HT := Lib.hid (show ∀ w' : World, w' = wr.drew.alloc (.cells (wordsC rlopsL) 9) → RR w w' b off ws ∧ w'.cell? ⟨b, off + 4, none⟩ = some (strV a4) ∧ w'.cell? ⟨wr.heap.size, i, none⟩ = some (strV x) from fun w' hw' => by
            subst hw'
            have hr2 : RR w (wr.drew.alloc (.cells (wordsC rlopsL) 9)) b off ws := HQ.out.drew.below ((Below.refl _ _).alloc (Nat.le_refl _) _)
            refine ⟨hr2, ?_, ?_⟩
            · have := hr2.word 4 (by omega)
              rwa [← HA4.out] at this
            · have := words_cell wr.drew rlopsL i hil
              rw [hx, List.getD_eq_getElem?_getD, List.getElem?_eq_getElem hil]
              exact this)
          have HX := Lib.hid hx
          have hn1 : (i : Int) < (rlopsL.length : Int) := hlti
          have hn4 : 4 < ws.length := by omega
          clear hrr hx
          by_cases hxa : x = a4
          · have hbq : (x == a4) = true := by simpa using hxa
            have HS := Lib.hid (show opN a4 (i + 1) = i by unfold opN; rw [if_pos ⟨hi1, by rw [← HX.out]; exact hxa⟩])
            clear hxa
            go_wp2_with fail
            go_region_with (go_at_call 27; refine (rlops_ok _).mono ?_; rintro e w1 ⟨rfl, hw1⟩; have HTT := Lib.hid (HT.out w1 hw1); obtain ⟨-, t1, t2⟩ := HTT.out; clear hw1)
            all_goals
              go_wp2_with fail
              go_roundw
              case rel => exact ⟨i + 1, by omega, by omega, by go_num, by rw [HS.out], HTT.out.1⟩
              case measure => simp [intOf]; omega
          · have hbq : (x == a4) = false := by simpa using hxa
            have HS := Lib.hid (show opN a4 (i + 1) = opN a4 i by conv => lhs; unfold opN; rw [if_neg (fun h => hxa (by rw [HX.out]; exact h.2))])
            clear hxa
            go_wp2_with fail
            go_region_with (go_at_call 27; refine (rlops_ok _).mono ?_; rintro e w1 ⟨rfl, hw1⟩; have HTT := Lib.hid (HT.out w1 hw1); obtain ⟨-, t1, t2⟩ := HTT.out; clear hw1)
            all_goals
              go_wp2_with fail
              go_roundw
              case rel => exact ⟨i + 1, by omega, by omega, by go_num, by rw [HS.out], HTT.out.1⟩
              case measure => simp [intOf]; omega
      · obtain rfl : i = 20 := by omega
        have HQ := Lib.hid hrr
        obtain ⟨o, ho⟩ : ∃ o, o = opN a4 20 := ⟨_, rfl⟩
        have ho19 : o ≤ 19 := by rw [ho]; exact opN_lt a4 20
        have HOT := Lib.hid (show opT ws = o by unfold opT; rw [← HA4.out, ho])
        rw [← ho]
        have HBI := Lib.hid (show badH ws o ↔ (e0 = 10 ∨ e1 = 10 ∨ e3 = 10 ∨ ok = false ∨ o = 0 ∨ 255 < t ∨ 65535 < u ∨ 64 < m) by unfold badH; rw [HP0.out, HP1.out, HP2.out, HP3.out])
        clear hrr ho
        go_upto_region 15 with fail
        go_cut [102] (fun c wx => c = .bool (decide (badH ws o)) ∧ RR w wx b off ws)
        case first =>
          as_aux_lemma =>
            rcases HE0.out with h | h
            case inr =>
              (try dsimp only at h)
              subst h
              have HB := Lib.hid (decide_eq_true (p := badH ws o) (HBI.out.2 (.inl rfl)))
              go_wp2_with fail
              go_meet
              exact ⟨by rw [HB.out], HQ.out⟩
            (try dsimp only at h)
            subst h
            rcases HE1.out with h | h
            case inr =>
              (try dsimp only at h)
              subst h
              have HB := Lib.hid (decide_eq_true (p := badH ws o) (HBI.out.2 (.inr (.inl rfl))))
              go_wp2_with fail
              go_meet
              exact ⟨by rw [HB.out], HQ.out⟩
            (try dsimp only at h)
            subst h
            rcases HE3.out with h | h
            case inr =>
              (try dsimp only at h)
              subst h
              have HB := Lib.hid (decide_eq_true (p := badH ws o) (HBI.out.2 (.inr (.inr (.inl rfl)))))
              go_wp2_with fail
              go_meet
              exact ⟨by rw [HB.out], HQ.out⟩
            (try dsimp only at h)
            subst h
            cases ok
            case false =>
              have HB := Lib.hid (decide_eq_true (p := badH ws o) (HBI.out.2 (.inr (.inr (.inr (.inl rfl))))))
              go_wp2_with fail
              go_meet
              exact ⟨by rw [HB.out], HQ.out⟩
            by_cases q0 : o = 0
            · have q1 : ((o : Int) == 0) = true := by simp [q0]
              have HB := Lib.hid (decide_eq_true (p := badH ws o) (HBI.out.2 (.inr (.inr (.inr (.inr (.inl q0)))))))
              clear q0
              go_wp2_with fail
              go_meet
              exact ⟨by rw [HB.out], HQ.out⟩
            have q1 : ((o : Int) == 0) = false := by simp; omega
            by_cases q2 : 255 < t
            · have q3 : (255 : Int) < (t : Int) := by omega
              have HB := Lib.hid (decide_eq_true (p := badH ws o) (HBI.out.2 (.inr (.inr (.inr (.inr (.inr (.inl q2))))))))
              go_wp2_with fail
              go_meet
              exact ⟨by rw [HB.out], HQ.out⟩
            have q3 : (t : Int) ≤ 255 := by omega
            by_cases q4 : 65535 < u
            · have q5 : (65535 : Int) < (u : Int) := by omega
              have HB := Lib.hid (decide_eq_true (p := badH ws o) (HBI.out.2 (.inr (.inr (.inr (.inr (.inr (.inr (.inl q4)))))))))
              go_wp2_with fail
              go_meet
              exact ⟨by rw [HB.out], HQ.out⟩
            have q5 : (u : Int) ≤ 65535 := by omega
            by_cases q6 : 64 < m
            · have q7 : (64 : Int) < (m : Int) := by omega
              have HB := Lib.hid (decide_eq_true (p := badH ws o) (HBI.out.2 (.inr (.inr (.inr (.inr (.inr (.inr (.inr q6)))))))))
              go_wp2_with fail
              go_meet
              exact ⟨by rw [HB.out], HQ.out⟩
            have q7 : (m : Int) ≤ 64 := by omega
            have HB := Lib.hid (decide_eq_false (p := badH ws o) (fun h => by have := HBI.out.1 h; simp only [Bool.true_eq_false, false_or] at this; omega))
            go_wp2_with fail
            go_meet
            exact ⟨by rw [HB.out, decide_eq_false (show ¬ (255 : Int) < (t : Int) by omega), decide_eq_false (show ¬ (65535 : Int) < (u : Int) by omega), decide_eq_false (show ¬ (64 : Int) < (m : Int) by omega)]; rfl, HQ.out⟩
        case rest =>
          as_aux_lemma =>
            obtain ⟨rfl, hrr⟩ := hcut
            have HQ := Lib.hid hrr
            clear hrr
            by_cases hbad : badH ws o
            · rw [decide_eq_true hbad]
              have HNO := Lib.hid (show ¬ RG l from fun h => h.head (by rw [← HWS.out, HOT.out]; exact hbad))
              clear hbad
              have l4 := loadReq_row HQ.out.zer
              rw [HR0.out] at l4
              have HRB := Lib.hid HQ.out.res
              rw [HR0.out] at HRB
              go_wp2_with (refine wpList_store_row rfl 30 (.tmp 2) (.tmp 103) rfl r0 (rqC (zeroR 0)) rfl rfl 30 zeroC HRB.out (rq_size _) rfl (rq_one _) ?_)
              refine bodyPost_ret (results_cell_tmp rfl _ _ r0 30 (rqC (zeroR 0)) (0, 0) _ rfl (HRB.out.row _) Tryz.underlying30 rfl (rq_size _)) rfl ?_
              exact ⟨zeroR 0, false, rfl, below_setRow HQ.out.bel (by rw [HR0.out]; exact Nat.le_refl _) _, .inr ⟨rfl, rfl, HNO.out⟩⟩
            · rw [decide_eq_false hbad]
              have HGOOD := Lib.hid hbad
              have hgd : ¬ (e0 = 10 ∨ e1 = 10 ∨ e3 = 10 ∨ ok = false ∨ o = 0 ∨ 255 < t ∨ 65535 < u ∨ 64 < m) := fun h => hbad (HBI.out.2 h)
              have q3 : (t : Int) ≤ 255 := by omega
              have q5 : (u : Int) ≤ 65535 := by omega
              have q7 : (m : Int) ≤ 64 := by omega
              have hop : isOp (o : Int) = true := by unfold isOp; rw [decide_eq_true (by omega), decide_eq_true (by omega)]; rfl
              clear hgd hbad
              have hHD : hdT ws o = { zeroR (o : Int) with tenant := (t : Nat), user := (u : Nat), secret := sec, m := (m : Nat) } := by unfold hdT; rw [HP0.out, HP1.out, HP2.out, HP3.out]
              have HHD := Lib.hid hHD
              clear hHD
              have HN := Lib.hid (Blk.new wc 30 zeroC)
              have hqb : r0 + 1 < wc.heap.size := by have := HQ.out.zer.lt; have := HR0.out; omega
              obtain ⟨qb, hqbn⟩ : ∃ qb, wc.heap.size = qb := ⟨_, rfl⟩
              rw [hqbn] at hqb HN
              have HQ2 := Lib.hid (HQ.out.below ((Below.refl _ _).alloc (Nat.le_refl _) (.cells zeroC 30)))
              have hz : (wc.alloc (.cells zeroC 30)).heap.size = qb + 1 := by simp [hqbn]
              obtain ⟨w3, hst3⟩ : ∃ w3, wc.alloc (.cells zeroC 30) = w3 := ⟨_, rfl⟩
              rw [hst3] at HN HQ2 hz
              go_wp2_with (refine wpList_store_row rfl 30 (.tmp 16) (.tmp 112) rfl qb (rqC ({ zeroR (o : Int) with tenant := (t : Nat), user := (u : Nat), secret := sec, m := (m : Nat) } : Req)) rfl rfl 30 zeroC HN.out (rq_size _) rfl (rq_one _) ?_)
              have HR2 := Lib.hid (show R2 w (w3.setRow qb (rqC (hdT ws o))) b off ws qb (hdT ws o) from ⟨HQ2.out.farRow (by rw [HR0.out]; exact hqb) (by rw [← hqbn]; exact HQ.out.lt) _, HN.out.row _, by rw [HR0.out]; exact hqb, by rw [← hqbn]; exact HQ.out.lt⟩)
              rw [← HHD.out]
              obtain ⟨w4, hst4⟩ : ∃ w4, w3.setRow qb (rqC (hdT ws o)) = w4 := ⟨_, rfl⟩
              rw [hst4] at HR2 ⊢
              obtain ⟨H, hH⟩ : ∃ H, hdT ws o = H := ⟨_, rfl⟩
              rw [hH] at HR2
              have HH := Lib.hid hH
              clear hst4 hst3 hz hqbn HN HQ2 HQ hH HHD q3 q5 q7 hqb
              go_wp2_with fail
              refine (rfields_ok (o : Int) hop w4).mono ?_
              rintro e w5 ⟨fv, rfl, hs, hb⟩
              have HR2 := Lib.hid (HR2.out.below hb)
              have HS := Lib.hid hs
              clear hs hb
              go_upto_if 116 with fail
              go_cut [17] (fun f wx => R2 w wx b off ws qb H ∧ Sl inC wx wx.heap.size f (wideL o))
              case first =>
                by_cases h3 : o = 3
                · have h3b : ((o : Int) == 3) = true := by simp [h3]
                  have HW3 := Lib.hid (show wideL o = [0] by unfold wideL; rw [if_pos h3])
                  clear h3
                  go_wp2_with fail
                  go_meet
                  refine ⟨HR2.out.below ((Below.refl _ _).alloc (Nat.le_refl _) _), ?_⟩
                  rw [HW3.out]
                  exact ⟨_, _, rfl, Nat.le_refl _, by unfold maxLen; simp, fun _ => ⟨_, 0, rfl, by simp, (Blk.new w5 3 #[.int .i64 0]).lay⟩⟩
                · have h3b : ((o : Int) == 3) = false := by simp; omega
                  have HW3 := Lib.hid (wide_not3 h3)
                  clear h3
                  go_wp2_with fail
                  go_meet
                  exact ⟨HR2.out, by rw [HW3.out]; exact HS.out⟩
              case rest =>
                obtain ⟨hr2, fA, fcap, rfl, hf1, hf2, hf3⟩ := hcut
                unfold maxLen at hf2
                have HR2 := Lib.hid hr2
                have HF3 := Lib.hid hf3
                obtain ⟨L, hL⟩ : ∃ L, L = (wideL o).length := ⟨_, rfl⟩
                have hL7 : L ≤ 7 := by
                  rw [hL]
                  by_cases h3 : o = 3
                  · subst h3; decide
                  · rw [wide_not3 h3]; exact widths_len7 o (by omega)
                rw [← hL] at hf1 ⊢
                have HL := Lib.hid hL
                clear hr2 hf3 hL HS
                by_cases hlen : ws.length = 5 + L
                case neg =>
                  have hne : ((ws.length : Int) != 5 + (L : Int)) = true := by simp; omega
                  have HNO := Lib.hid (show ¬ RG l from fun h => by have := h.len; rw [← HWS.out, HOT.out, ← HL.out] at this; exact hlen this)
                  clear hlen
                  have l4 := loadReq_row HR2.out.rr.zer
                  rw [HR0.out] at l4
                  have HRB := Lib.hid HR2.out.rr.res
                  rw [HR0.out] at HRB
                  go_wp2_with (refine wpList_store_row rfl 30 (.tmp 2) (.tmp 124) rfl r0 (rqC (zeroR 0)) rfl rfl 30 zeroC HRB.out (rq_size _) rfl (rq_one _) ?_)
                  refine bodyPost_ret (results_cell_tmp rfl _ _ r0 30 (rqC (zeroR 0)) (0, 0) _ rfl (HRB.out.row _) Tryz.underlying30 rfl (rq_size _)) rfl ?_
                  exact ⟨zeroR 0, false, rfl, below_setRow HR2.out.rr.bel (by rw [HR0.out]; exact Nat.le_refl _) _, .inr ⟨rfl, rfl, HNO.out⟩⟩
                have hne : ((ws.length : Int) != 5 + (L : Int)) = false := by simp; omega
                have HLN := Lib.hid hlen
                have hN : (ws.length : Int) = 5 + (L : Int) := by omega
                have HNI := Lib.hid hN
                clear hlen hN n4 n3 n2 n1 n0 h5'
                go_wp2_with fail
                obtain ⟨w6, rfl⟩ : ∃ w6 : World, w6 = wc := ⟨_, rfl⟩
                go_loopw [18, 19, 20] (fun tv lv iv wr => ∃ i, i ≤ L ∧ iv = .int .i64 (i : Nat) ∧ tv = strV (txI o ws i) ∧ Own u8C 1 22 wr w6.heap.size lv (numsT o ws i) ∧ (∀ j, j < i → fineI o ws j = true) ∧ R2 w wr b off ws qb H ∧ Below w6.heap.size w6 wr) (fun _ _ iv _ => (L - intOf iv).toNat)
                case atStart => exact ⟨0, Nat.zero_le _, rfl, rfl, Own.nil, fun j hj => absurd hj (Nat.not_lt_zero _), HR2.out, Below.refl _ _⟩
                case round =>
                  obtain ⟨i, hi, rfl, rfl, hown, hfi, hr3, hbel⟩ := hrel
                  obtain ⟨lA, lC, rfl⟩ := hown.form
                  have HO := Lib.hid hown
                  have HFI := Lib.hid hfi
                  have HR3 := Lib.hid hr3
                  have HBL := Lib.hid hbel
                  clear hown hfi hr3 hbel
                  by_cases hlt : i < L
                  · have hlti : (i : Int) < (L : Int) := by omega
                    have x5 := HR3.out.rr.word (5 + i) (by have := HLN.out; omega)
                    have s5 : (5 : Int) + (i : Int) < (ws.length : Int) := by have := HNI.out; omega
                    have s6 : (5 : Int) < (ws.length : Int) := by omega
                    obtain ⟨px, pe, hpp⟩ : ∃ t e, rpar (ws.getD (5 + i) []) = (t, e) := ⟨_, _, rfl⟩
                    have HPP := Lib.hid hpp
                    clear hpp
                    go_wp2_with fail
                    refine (rparse_ok (ws.getD (5 + i) []) wr (HLEN.out (5 + i))).mono ?_
                    rintro e w' ⟨rfl, hw'⟩
                    rw [hw']
                    clear hw' w'
                    rw [HPP.out]
                    clear x5
                    go_upto_if 143 with fail
                    go_cut [18, 23] (fun tv rv wx => tv = strV (txT o ws) ∧ rv = .bool (if o = 3 then (unq (ws.getD 5 [])).2 else decide (pe = 0)) ∧ R2 w wx b off ws qb H ∧ Below wr.heap.size wr wx)
                    case first =>
                      as_aux_lemma =>
                        by_cases h3 : o = 3
                        · have h3b : ((o : Int) == 3) = true := by simp [h3]
                          have HT3 := Lib.hid (show txT o ws = (unq (ws.getD 5 [])).1 by unfold txT; rw [if_pos h3])
                          have HI3 := Lib.hid (show (if o = 3 then (unq (ws.getD 5 [])).2 else decide (pe = 0)) = (unq (ws.getD 5 [])).2 by rw [if_pos h3])
                          have y5 := HR3.out.rr.word 5 (by have := HLN.out; omega)
                          have HUQ := Lib.hid (fun w => runq_ok (ws.getD 5 []) w (HLEN5.out 5))
                          clear h3
                          go_wp2_with fail
                          refine (HUQ.out _).mono ?_
                          rintro e w7 ⟨rfl, hb⟩
                          have HR4 := Lib.hid (HR3.out.below hb)
                          have HB4 := Lib.hid hb
                          clear hb y5
                          go_wp2_with fail
                          go_meet
                          exact ⟨by rw [HT3.out]; rfl, by rw [HI3.out]; rfl, HR4.out, HB4.out⟩
                        · have h3b : ((o : Int) == 3) = false := by simp; omega
                          have HT3 := Lib.hid (show txT o ws = [] by unfold txT; rw [if_neg h3])
                          have HTI := Lib.hid (show txI o ws i = [] by unfold txI; rw [HT3.out, ite_self])
                          have HI3 := Lib.hid (show (if o = 3 then (unq (ws.getD 5 [])).2 else decide (pe = 0)) = (pe == 0) by rw [if_neg h3]; rfl)
                          clear h3
                          go_wp2_with fail
                          go_meet
                          exact ⟨by rw [HTI.out, HT3.out], by rw [HI3.out], HR3.out, Below.refl _ _⟩
                    case rest =>
                      obtain ⟨rfl, rfl, hr4, hb4⟩ := hcut
                      have HR4 := Lib.hid hr4
                      have HB4 := Lib.hid hb4
                      obtain ⟨rg, hrg⟩ : ∃ rg, rg = (if o = 3 then (unq (ws.getD 5 [])).2 else decide (pe = 0)) := ⟨_, rfl⟩
                      rw [← hrg]
                      have HRG := Lib.hid hrg
                      clear hr4 hb4 hrg
                      go_upto_if 152 with fail
                      go_cut [21, 23] (fun nv rv wx => nv = .int .u64 ((nI o ws i).1 : Nat) ∧ rv = .bool (nI o ws i).2 ∧ R2 w wx b off ws qb H ∧ Below wr.heap.size wr wx)
                      case first =>
                        as_aux_lemma =>
                          by_cases h6 : o = 6
                          · have h6b : ((o : Int) == 6) = true := by simp [h6]
                            have HN6 := Lib.hid (show nI o ws i = rhx (ws.getD 5 []) by unfold nI; rw [if_pos h6])
                            have y5 := HR4.out.rr.word 5 (by have := HLN.out; omega)
                            clear h6
                            go_wp2_with fail
                            refine (rhex26_ok (ws.getD 5 []) _ (HLEN.out 5)).mono ?_
                            rintro e w' ⟨rfl, hw'⟩
                            rw [hw']
                            clear hw' w' y5
                            go_wp2_with fail
                            go_meet
                            exact ⟨by rw [HN6.out]; rfl, by rw [HN6.out]; rfl, HR4.out, HB4.out⟩
                          · have h6b : ((o : Int) == 6) = false := by simp; omega
                            have HN6 := Lib.hid (show nI o ws i = (px, rg) by unfold nI; rw [if_neg h6, HPP.out, HRG.out])
                            clear h6
                            go_wp2_with fail
                            go_meet
                            exact ⟨by rw [HN6.out], by rw [HN6.out], HR4.out, HB4.out⟩
                      case rest =>
                        obtain ⟨rfl, rfl, hr5, hb5⟩ := hcut
                        have HR5 := Lib.hid hr5
                        have HB5 := Lib.hid hb5
                        have hn64 := nI_lt o ws i
                        obtain ⟨n, hn⟩ : ∃ n, n = (nI o ws i).1 := ⟨_, rfl⟩
                        obtain ⟨rt, hrt⟩ : ∃ rt, rt = (nI o ws i).2 := ⟨_, rfl⟩
                        obtain ⟨d, hd⟩ : ∃ d, d = (wideL o).getD i 0 := ⟨_, rfl⟩
                        have hfn : fineI o ws i = (rt && okV d n) := by unfold fineI; rw [← hn, ← hrt, ← hd]
                        rw [← hn, ← hrt]
                        rw [← hn] at hn64
                        have HFN := Lib.hid hfn
                        have HN := Lib.hid hn
                        obtain ⟨fb, foff, rfl, hfb, hflay⟩ := HF3.out (by rw [← HL.out]; omega)
                        have hbx := HBL.out.trans (HB5.out.mono HBL.out.size)
                        have xw := (hflay.of_heap (hbx.block fb hfb)).inw i (by rw [← HL.out]; exact hlt)
                        rw [← hd] at xw
                        clear hr5 hb5 hn hrt hd hfn hflay hbx
                        go_upto_region 34 with fail
                        go_cut [194] (fun c wx => c = .bool (!fineI o ws i) ∧ R2 w wx b off ws qb H ∧ Below wr.heap.size wr wx)
                        case first =>
                          as_aux_lemma =>
                            cases rt
                            case false =>
                              go_wp2_with fail
                              go_meet
                              exact ⟨by rw [HFN.out]; rfl, HR5.out, HB5.out⟩
                            by_cases d1 : d = 1
                            · have e1 : ((d : Int) == 1) = true := by simp; omega
                              have e2 : ((d : Int) == 2) = false := by simp; omega
                              have e4 : ((d : Int) == 4) = false := by simp; omega
                              have HV := Lib.hid (show okV d n = !decide ((255 : Int) < (n : Int)) by rw [Bool.eq_iff_iff, okV_iff]; simp; omega)
                              clear d1
                              by_cases g : (255 : Int) < (n : Int)
                              · rw [decide_eq_true g] at HV
                                go_wp2_with fail
                                go_meet
                                exact ⟨by rw [HFN.out, HV.out]; rfl, HR5.out, HB5.out⟩
                              · rw [decide_eq_false g] at HV
                                have g' : (n : Int) ≤ 255 := by omega
                                clear g
                                go_wp2_with fail
                                go_meet
                                exact ⟨by first | (rw [HFN.out, HV.out]; rfl) | (rw [HFN.out, HV.out, decide_eq_false (show ¬ (255 : Int) < (n : Int) by omega)]; rfl), HR5.out, HB5.out⟩
                            by_cases d2 : d = 2
                            · have e1 : ((d : Int) == 1) = false := by simp; omega
                              have e2 : ((d : Int) == 2) = true := by simp; omega
                              have e4 : ((d : Int) == 4) = false := by simp; omega
                              have HV := Lib.hid (show okV d n = !decide ((65535 : Int) < (n : Int)) by rw [Bool.eq_iff_iff, okV_iff]; simp; omega)
                              clear d1 d2
                              by_cases g : (65535 : Int) < (n : Int)
                              · rw [decide_eq_true g] at HV
                                go_wp2_with fail
                                go_meet
                                exact ⟨by rw [HFN.out, HV.out]; rfl, HR5.out, HB5.out⟩
                              · rw [decide_eq_false g] at HV
                                have g' : (n : Int) ≤ 65535 := by omega
                                clear g
                                go_wp2_with fail
                                go_meet
                                exact ⟨by first | (rw [HFN.out, HV.out]; rfl) | (rw [HFN.out, HV.out, decide_eq_false (show ¬ (65535 : Int) < (n : Int) by omega)]; rfl), HR5.out, HB5.out⟩
                            by_cases d4 : d = 4
                            · have e1 : ((d : Int) == 1) = false := by simp; omega
                              have e2 : ((d : Int) == 2) = false := by simp; omega
                              have e4 : ((d : Int) == 4) = true := by simp; omega
                              have HV := Lib.hid (show okV d n = !decide ((4294967295 : Int) < (n : Int)) by rw [Bool.eq_iff_iff, okV_iff]; simp; omega)
                              clear d1 d2 d4
                              by_cases g : (4294967295 : Int) < (n : Int)
                              · rw [decide_eq_true g] at HV
                                go_wp2_with fail
                                go_meet
                                exact ⟨by first | (rw [HFN.out, HV.out]; rfl) | (rw [HFN.out, HV.out, decide_eq_true g]; rfl), HR5.out, HB5.out⟩
                              · rw [decide_eq_false g] at HV
                                have g' : (n : Int) ≤ 4294967295 := by omega
                                clear g
                                go_wp2_with fail
                                go_meet
                                exact ⟨by first | (rw [HFN.out, HV.out]; rfl) | (rw [HFN.out, HV.out, decide_eq_false (show ¬ (4294967295 : Int) < (n : Int) by omega)]; rfl), HR5.out, HB5.out⟩
                            · have e1 : ((d : Int) == 1) = false := by simp; omega
                              have e2 : ((d : Int) == 2) = false := by simp; omega
                              have e4 : ((d : Int) == 4) = false := by simp; omega
                              have HV := Lib.hid (show okV d n = true by rw [okV_iff]; omega)
                              clear d1 d2 d4
                              go_wp2_with fail
                              go_meet
                              exact ⟨by rw [HFN.out, HV.out]; rfl, HR5.out, HB5.out⟩
                        case rest =>
                          obtain ⟨rfl, hr6, hb6⟩ := hcut
                          have HR6 := Lib.hid hr6
                          have HB6 := Lib.hid hb6
                          clear hr6 hb6 xw
                          cases hfine : fineI o ws i
                          · have HNO := Lib.hid (show ¬ RG l from fun h => by have := h.fine i; rw [← HWS.out, HOT.out, ← HL.out, hfine] at this; exact Bool.noConfusion (this hlt))
                            clear hfine
                            have l4 := loadReq_row HR6.out.rr.zer
                            rw [HR0.out] at l4
                            have HRB := Lib.hid HR6.out.rr.res
                            rw [HR0.out] at HRB
                            go_wp2_with (refine wpList_store_row rfl 30 (.tmp 2) (.tmp 195) rfl r0 (rqC (zeroR 0)) rfl rfl 30 zeroC HRB.out (rq_size _) rfl (rq_one _) ?_)
                            refine bodyPost_ret (results_cell_tmp rfl _ _ r0 30 (rqC (zeroR 0)) (0, 0) _ rfl (HRB.out.row _) Tryz.underlying30 rfl (rq_size _)) rfl ?_
                            exact ⟨zeroR 0, false, rfl, below_setRow HR6.out.rr.bel (by rw [HR0.out]; exact Nat.le_refl _) _, .inr ⟨rfl, rfl, HNO.out⟩⟩
                          · have HFF := Lib.hid hfine
                            have HO6 := Lib.hid (HO.out.keep fun b hb => HB6.out.block b (HO.out.lt b hb).2)
                            have HB7 := Lib.hid (HBL.out.trans (HB6.out.mono HBL.out.size))
                            have hsz := HB7.out.size
                            have HNL := Lib.hid (nums_len o ws i)
                            go_wp2_with (at_builtin; refine app_one u8_elem u8_enc rfl (.tmp 196) (.tmp 198) rfl rfl (HO6.out.alloc _) n wc.heap.size 1 rfl (Blk.lay (Blk.new _ _ _)) (by rw [HNL.out]; unfold maxLen; omega) (by rw [HNL.out]; omega) (by simp; omega) ?_; intro g' cap' w9 hown9 hgrow hat hlt9; have HO9 := Lib.hid hown9; have HW9 := Lib.hid (below_of_own hgrow (by simp; omega) (HO6.out.alloc _)); clear hown9 hgrow hat)
                            go_roundw
                            case rel =>
                              have hbF := HB7.out.trans (((Below.refl w6.heap.size wc).alloc hsz _).trans HW9.out)
                              have hown := HO9.out
                              rw [HN.out, ← nums_succ] at hown
                              exact ⟨i + 1, by omega, by go_num, by unfold txI; rw [if_pos (by omega)], hown, fun j hj => by
                                by_cases hji : j < i
                                · exact HFI.out j hji
                                · rw [show j = i by omega]; exact HFF.out, HR2.out.below hbF, hbF⟩
                            case measure => simp [intOf]; omega
                  · as_aux_lemma =>
                      obtain rfl : i = L := by omega
                      have HTI := Lib.hid (show txI o ws i = txT o ws by
                        unfold txI
                        by_cases h3 : o = 3
                        · have : 0 < i := by rw [HL.out, h3]; decide
                          rw [if_pos this]
                        · have : txT o ws = [] := by unfold txT; rw [if_neg h3]
                          rw [this, ite_self])
                      rw [HTI.out]
                      have hfin : ∀ j, j < (wideL o).length → fineI o ws j = true := fun j hj => HFI.out j (by rw [HL.out]; exact hj)
                      have hqf := qT_fits ho19 HGOOD.out (fun x hx => by have := HWL.out x hx; omega) hfin
                      have HWT := Lib.hid (fun w s hs => withT_ok ws o hop hfin s w hs)
                      obtain ⟨Q, hQ⟩ : ∃ Q, withR (hdT ws o) (numsT o ws (wideL o).length) (txT o ws) = Q := ⟨_, rfl⟩
                      rw [hQ] at HWT hqf
                      have hqop : Q.op = (o : Int) := by rw [← hQ]; exact (withR_head _ _ _).op
                      have HQT := Lib.hid (show qT ws = Q by unfold qT; rw [HOT.out]; exact hQ)
                      rw [HH.out] at HWT
                      have HQF := Lib.hid hqf.1
                      have HQI := Lib.hid hqf.2
                      have HFIN := Lib.hid hfin
                      have HQO := Lib.hid hqop
                      have HOP := Lib.hid hop
                      have HSL := Lib.hid (show Sl u8C wr wr.heap.size (.slice lA (numsT o ws i).length lC) (numsT o ws (wideL o).length) by rw [← HL.out]; exact HO.out.sl)
                      clear hQ hqf hfin hqop hop
                      have l16 := loadReq_row HR3.out.blk
                      go_wp2_with fail
                      refine (HWT.out wr _ HSL.out).mono ?_
                      rintro e w7 ⟨rfl, hb⟩
                      have HR7 := Lib.hid (HR3.out.below hb)
                      clear hb l16
                      have HR8 := Lib.hid (HR7.out.set Q)
                      obtain ⟨w8, hst8⟩ : ∃ w8, w7.setRow qb (rqC Q) = w8 := ⟨_, rfl⟩
                      rw [hst8] at HR8
                      have l16 := loadReq_row HR8.out.blk
                      go_wp2_with (refine wpList_store_row rfl 30 (.tmp 16) (.tmp 203) rfl qb (rqC Q) rfl rfl 30 (rqC H) HR7.out.blk (rq_size _) rfl (rq_one _) ?_)
                      refine (rbytes_ok Q _ HQF.out HQI.out).mono ?_
                      rintro e w9 ⟨v', l', rfl, -, -, hb⟩
                      have HR9 := Lib.hid (HR8.out.below hb)
                      clear hb l16 hst8
                      have l16 := loadReq_row HR9.out.blk
                      rw [← (enc_rb Q).1]
                      cases hok : encOk Q
                      · have HNO := Lib.hid (show ¬ RG l from fun h => by have := h.enc; rw [← HWS.out, HQT.out, hok] at this; exact Bool.noConfusion this)
                        clear hok
                        have l4 := loadReq_row HR9.out.rr.zer
                        rw [HR0.out] at l4
                        have HRB := Lib.hid HR9.out.rr.res
                        rw [HR0.out] at HRB
                        go_wp2_with (refine wpList_store_row rfl 30 (.tmp 2) (.tmp 217) rfl r0 (rqC (zeroR 0)) rfl rfl 30 zeroC HRB.out (rq_size _) rfl (rq_one _) ?_)
                        refine bodyPost_ret (results_cell_tmp rfl _ _ r0 30 (rqC (zeroR 0)) (0, 0) _ rfl (HRB.out.row _) Tryz.underlying30 rfl (rq_size _)) rfl ?_
                        exact ⟨zeroR 0, false, rfl, below_setRow HR9.out.rr.bel (by rw [HR0.out]; exact Nat.le_refl _) _, .inr ⟨rfl, rfl, HNO.out⟩⟩
                      · have HEO := Lib.hid hok
                        obtain ⟨hop2, htx⟩ := enc_op hok
                        have HLI := Lib.hid (fun w => rline_ok Q w hop2 HQF.out htx)
                        rw [rline_eq Q hop2] at HLI
                        obtain ⟨T, hT⟩ : ∃ T, T = lineQ Q := ⟨_, rfl⟩
                        rw [← hT] at HLI
                        have HT := Lib.hid hT
                        clear hok hop2 htx hT
                        go_wp2_with fail
                        refine (HLI.out _).mono ?_
                        rintro e w10 ⟨rfl, hb⟩
                        have HRA := Lib.hid (HR9.out.below hb)
                        clear hb l16
                        have l16 := loadReq_row HRA.out.blk
                        by_cases hTl : T = l
                        · have hbq : (T != l) = false := by simp [hTl]
                          have hbq2 : (T == l) = true := by simp [hTl]
                          have HG := Lib.hid (show RG l from ⟨by rw [← HWS.out]; have := HLN.out; omega, by rw [← HWS.out, HOT.out]; exact HGOOD.out, by rw [← HWS.out, HOT.out, ← HL.out]; exact HLN.out, by rw [← HWS.out, HOT.out]; exact HFIN.out, by rw [← HWS.out, HQT.out]; exact HEO.out, by rw [← HWS.out, HQT.out, ← HT.out]; exact hTl⟩)
                          clear hTl
                          have HRB := Lib.hid HRA.out.rr.res
                          rw [HR0.out] at HRB
                          go_wp2_with (refine wpList_store_row rfl 30 (.tmp 2) (.tmp 218) rfl r0 (rqC Q) rfl rfl 30 zeroC HRB.out (rq_size _) rfl (rq_one _) ?_)
                          refine bodyPost_ret (results_cell_tmp rfl _ _ r0 30 (rqC Q) (0, 0) _ rfl (HRB.out.row _) Tryz.underlying30 rfl (rq_size _)) rfl ?_
                          exact ⟨Q, true, rfl, below_setRow HRA.out.rr.bel (by rw [HR0.out]; exact Nat.le_refl _) _, .inl ⟨rfl, HG.out, by rw [← HWS.out, HQT.out]⟩⟩
                        · have hbq : (T != l) = true := by simpa using hTl
                          have hbq2 : (T == l) = false := by simpa using hTl
                          have HNO := Lib.hid (show ¬ RG l from fun h => by have := h.line; rw [← HWS.out, HQT.out, ← HT.out] at this; exact hTl this)
                          clear hTl
                          have l4 := loadReq_row HRA.out.rr.zer
                          rw [HR0.out] at l4
                          have HRB := Lib.hid HRA.out.rr.res
                          rw [HR0.out] at HRB
                          go_wp2_with (refine wpList_store_row rfl 30 (.tmp 2) (.tmp 217) rfl r0 (rqC (zeroR 0)) rfl rfl 30 zeroC HRB.out (rq_size _) rfl (rq_one _) ?_)
                          refine bodyPost_ret (results_cell_tmp rfl _ _ r0 30 (rqC (zeroR 0)) (0, 0) _ rfl (HRB.out.row _) Tryz.underlying30 rfl (rq_size _)) rfl ?_
                          exact ⟨zeroR 0, false, rfl, below_setRow HRA.out.rr.bel (by rw [HR0.out]; exact Nat.le_refl _) _, .inr ⟨rfl, rfl, HNO.out⟩⟩
end Go.Proofs.YtbfbcbhnknhgnaaGreatDoor
