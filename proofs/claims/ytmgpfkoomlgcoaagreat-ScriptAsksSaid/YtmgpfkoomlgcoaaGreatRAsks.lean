/-
  The reference's Steps of asks. Conditions: as each states.
-/
import Derived.Test.YtmgpfkoomlgcoaaGreatAsks
import Derived.Test.YtmgpfkoomlgcoaaGreatLawEnc
namespace Go.Proofs.YtmgpfkoomlgcoaaGreat
open Go.RowKit Go.Lib
attribute [local go_sem ↓] load_req stop_req

def RStepsPost (w : World) (conn : Int) (l : List Akt) (e : Ending) (w' : World) : Prop :=
  (l.all okAk = true ∧ ∃ v ls, e = .returned (.tuple #[v, .bool (cnB conn)]) ∧ Sl stC w' w'.heap.size v ls ∧ StsR w' ls (l.flatMap (st3 conn)) ∧ Below w.heap.size w w') ∨
  (l.all okAk = false ∧ ∃ v, e = .returned (.tuple #[v, .bool false]) ∧ Below w.heap.size w w')

theorem StsR.one0 {w : World} {s : Stp} {x : PSt} (h : StR w s x) : StsR w [s] [x] := StsR.one h
theorem Apart.none {w : World} {v : Value} {s : Stp} (h : s.A = none) : Apart w v [s] := fun s' hs a ha => by
  simp only [List.mem_cons, List.not_mem_nil, or_false] at hs
  subst hs
  rw [h] at ha
  cases ha

/-- What the round knows behind the request's bytes. -/
structure RRnd (w wx : World) (ls : List Stp) (xs : List PSt) (out vb : Value) (lb : List UInt8) : Prop where
  inv : SInv w wx ls xs out
  sl : Sl byC wx wx.heap.size vb lb
  ne : ∀ g, vb.ownBlock = some g → out.ownBlock ≠ some g ∧ g < wx.heap.size
theorem RRnd.app {w w5 w7 : World} {ls ys : List Stp} {xs ws : List PSt} {v v' vb : Value} {lb : List UInt8} {g' : Nat} (h : RRnd w w5 ls xs v vb lb) (o : Obj) (hgrow : (w5.alloc o).grownBy w7 v.ownBlock) (hat : v.ownBlock = some g' ∨ g' = (w5.alloc o).heap.size)
    (hown : Own stC 5 97 w7 w.heap.size v' (ls ++ ys)) (hv : v'.ownBlock = some g') (hs : StsR w5 ys ws) (ha : Apart w5 v ys) : RRnd w w7 (ls ++ ys) (xs ++ ws) v' vb lb := by
  have hsz : w5.heap.size ≤ w7.heap.size := Nat.le_trans (by simp) hgrow.size
  refine ⟨h.inv.app o hgrow hat hown hv hs ha, ?_, fun g hg => ?_⟩
  · obtain ⟨A, cap, rfl, h1, h2, h3⟩ := h.sl
    refine ⟨A, cap, rfl, h1, h2, fun hp => ?_⟩
    obtain ⟨b, off, rfl, hb, hl⟩ := h3 hp
    refine ⟨b, off, rfl, Nat.lt_of_lt_of_le hb hsz, hl.of_heap ?_⟩
    rw [hgrow.block b (by simp; omega) (fun e => (h.ne b rfl).1 e.symm)]
    exact Below.heap_alloc w5 o _ hb
  · obtain ⟨h1, h2⟩ := h.ne g hg
    refine ⟨fun e => ?_, Nat.lt_of_lt_of_le h2 hsz⟩
    rw [hv] at e
    simp only [Option.some.injEq] at e
    rcases hat with h3 | h3
    · exact h1 (by rw [h3, e])
    · simp at h3; omega

set_option maxRecDepth 100000 in
set_option maxHeartbeats 8000000 in
theorem rsteps_ok (conn : Int) (l : List Akt) (v : Value) (w : World) (hs : Sl akC w w.heap.size v l) (hf : ∀ a ∈ l, a.q.fits ∧ a.q.ib) (hl : l.length ≤ 60) :
    Calls Tryz.prog 35 #[.int .i64 conn, v] w (RStepsPost w conn l) := by
  have HFI := Lib.hid hf
  obtain ⟨A, ca, rfl, h1, h2, h3⟩ := hs
  have H3 := Lib.hid h3
  clear h3 hf h2
  go_enter Tryz.func35, Tryz.ntmps35
  go_wp2_with fail
  go_loopw [6, 7] (fun out i wr => ∃ (k : Nat) (ls : List Stp) (A' : Option Addr) (c' : Nat), k ≤ l.length ∧ i = .int .i64 (k : Nat) ∧ Hid (ls.length = 3 * k) ∧ ls.length ≤ 3 * k ∧ out = .slice A' ls.length c' ∧ Hid (SInv w wr ls ((l.take k).flatMap (st3 conn)) (.slice A' ls.length c')) ∧ Hid (∀ a ∈ l.take k, okAk a = true)) (fun _ i _ => (l.length - intOf i).toNat)
  case atStart => exact ⟨0, [], none, 0, Nat.zero_le _, rfl, Lib.hid rfl, by simp, rfl, Lib.hid (SInv.start w), Lib.hid (by simp)⟩
  case round =>
    obtain ⟨k, ls, A', c', hk, rfl, HLL, hle, rfl, HI, HALL⟩ := hrel
    have hsz := HI.out.bel.size
    by_cases hlt : k < l.length
    · obtain ⟨b, off, rfl, hb, hlay⟩ := H3.out (by omega)
      have HLAY := Lib.hid (fun (wx : World) (hx : Below w.heap.size w wx) => (hlay.of_heap (hx.block b hb)).elem akC_len k hlt)
      have hta := List.take_succ_eq_append_getElem hlt
      have hfa := HFI.out l[k] (List.getElem_mem hlt)
      have hno := fun h : okAk l[k] = false => all_no hlt h
      obtain ⟨a, ha⟩ : ∃ a, a = l[k] := ⟨_, rfl⟩
      rw [← ha] at HLAY hta hfa hno
      have HTA := Lib.hid hta
      have HF := Lib.hid hfa
      have HNO := Lib.hid hno
      have HROW := Lib.hid (show Lay wr b (off + k * 26) (rqC a.q).toList from (HLAY.out wr HI.out.bel).left)
      clear hta hfa hno ha hlay
      go_wp2_with (refine load_arr rfl 49 (.tmp 20) rfl b (off + k * 26) rfl (rqC a.q) _ HROW.out Tryz.underlying49 rfl (rq_size _) ?_)
      refine (rbytes_ok2 a.q _ HF.out.1 HF.out.2).mono ?_
      rintro e w4 ⟨vb, lb, rfl, hsb, hb0, hbel4, hown4⟩
      have HI4 := Lib.hid (HI.out.below hbel4)
      have hrow4 := HLAY.out w4 HI4.out.bel
      have c24 : w4.cell? ⟨b, off + k * 26 + 24, none⟩ = some (.int .u64 (a.d : Nat)) := hrow4 24 _ rfl
      have c25 : w4.cell? ⟨b, off + k * 26 + 25, none⟩ = some (.int .i64 a.t) := hrow4 25 _ rfl
      cases hrb : rbOk a.q
      · have HNT := Lib.hid (HNO.out (by unfold okAk; rw [hrb]; rfl))
        clear hsb hb0 hrb hrow4 hbel4 hown4
        go_wp2_with fail
        go_ret2
        exact .inr ⟨HNT.out, _, rfl, by first | exact HI4.out.bel | exact HI4.out.bel.alloc HI4.out.bel.size _⟩
      · have hlb := hb0 hrb
        rw [hlb] at hsb
        obtain ⟨hp, h6⟩ := rb_len a.q hrb
        have HRR := Lib.hid (show RRnd w w4 ls ((l.take k).flatMap (st3 conn)) (.slice A' ls.length c') vb (rbL a.q) from ⟨HI4.out, hsb, fun g hg => by
          have h1 := hown4 g hg
          have h2 : g < w4.heap.size := by
            obtain ⟨A9, c9, rfl, -, -, h9⟩ := hsb
            obtain ⟨b9, o9, rfl, h10, -⟩ := h9 hp
            simp only [Value.ownBlock, Option.some.injEq] at hg
            omega
          exact ⟨fun e => by have := (HI.out.own.lt g e).2; omega, h2⟩⟩)
        have HRB := Lib.hid hrb
        have H6 := Lib.hid h6
        clear hlb hsb hb0 hrb hp h6 hrow4 hbel4 hown4
        by_cases ht0 : 0 ≤ a.t
        · by_cases ht1 : a.t ≤ 4294967295
          · have HYES := Lib.hid (show okAk a = true by unfold okAk tkB; rw [HRB.out]; simp [ht0, ht1])
            have hsz4 := HI4.out.bel.size
            go_wp2_with (at_builtin; refine app_one stC_elem stC_enc rfl (.tmp 44) (.tmp 51) rfl rfl (HRR.out.inv.own.alloc _) ⟨3, 0, none, 0, 0, 0, a.t⟩ w4.heap.size 1 rfl (Blk.lay (Blk.new _ _ _)) (by unfold maxLen; omega) (by omega) (by simp; omega) ?_; intro g' cap w5 hown5 hgrow hat hlt5)
            have hr5 := HRR.out.app (ws := [⟨3, 0, [], 0, a.t⟩]) _ hgrow hat hown5 rfl (StsR.one ⟨rfl, rfl, Sl.nil, rfl, rfl⟩) (Apart.none rfl)
            obtain ⟨l1, hl1⟩ : ∃ l1, ls ++ [⟨3, 0, none, 0, 0, 0, a.t⟩] = l1 := ⟨_, rfl⟩
            have e1 : ls.length + 1 = l1.length := by rw [← hl1]; simp
            rw [hl1, e1] at hr5
            rw [e1]
            have hle1 : l1.length ≤ 3 * k + 1 := by omega
            have HL1 := Lib.hid hl1
            have HR5 := Lib.hid hr5
            clear hown5 hgrow hat hr5 hl1 e1
            refine (rframe_ok (rbL a.q) _ _ HR5.out.sl H6.out).mono ?_
            rintro e w6 ⟨vw, rfl, hsw, hbel6, hown6⟩
            have HI6 := Lib.hid (HR5.out.inv.below hbel6)
            have h56 := hbel6.size
            have hsz6 := HI6.out.bel.size
            have HSW := Lib.hid hsw
            obtain ⟨fl, hfl⟩ : ∃ fl, toBE 2 (rbL a.q).length ++ rbL a.q = fl := ⟨_, rfl⟩
            have HFL := Lib.hid hfl
            have HOW6 := Lib.hid (fun g h => hown6 g h)
            have HOLD := Lib.hid (fun g hg => (HR5.out.inv.own.lt g hg).2)
            rw [hfl] at HSW
            obtain ⟨A6, c6, rfl, -, -, -⟩ := hsw
            rw [hfl] at HOW6 HSW ⊢
            clear hbel6 hown6 hfl
            go_wp2_with (first
              | (at_builtin; refine app_one stC_elem stC_enc rfl (.tmp 53) (.tmp 58) rfl rfl (HI6.out.own.alloc _) ⟨1, conn, A6, fl.length, c6, 0, 0⟩ w6.heap.size 1 rfl (Blk.lay (Blk.new _ _ _)) (by unfold maxLen; omega) (by omega) (by simp; omega) ?_
                 intro g7 cap7 w7 hown7 hgrow hat hlt7
                 have HI7 := Lib.hid (HI6.out.app (ws := [⟨1, conn, fl, 0, 0⟩]) _ hgrow hat hown7 rfl (StsR.one ⟨rfl, rfl, HSW.out, rfl, rfl⟩) (fun s hs ad had => by
                   simp only [List.mem_cons, List.not_mem_nil, or_false] at hs
                   subst hs
                   simp only at had
                   subst had
                   obtain ⟨g1, g2⟩ := HOW6.out ad.block rfl
                   exact ⟨fun e => by have := HOLD.out _ e; omega, g2⟩))
                 obtain ⟨l2, hl2⟩ : ∃ l2, l1 ++ [⟨1, conn, A6, fl.length, c6, 0, 0⟩] = l2 := ⟨_, rfl⟩
                 have e2 : l1.length + 1 = l2.length := by rw [← hl2]; simp
                 rw [hl2, e2] at HI7
                 rw [e2]
                 have hle2 : l2.length ≤ 3 * k + 2 := by omega
                 have HL2 := Lib.hid hl2
                 have hrow7 := HLAY.out w7 HI7.out.bel
                 have d24 : w7.cell? ⟨b, off + k * 26 + 24, none⟩ = some (.int .u64 (a.d : Nat)) := hrow7 24 _ rfl
                 have hsz7 := HI7.out.bel.size
                 clear hown7 hgrow hat hl2 e2 hrow7)
              | (at_builtin; refine app_one stC_elem stC_enc rfl (.tmp 60) (.tmp 68) rfl rfl (HI7.out.own.alloc _) ⟨2, conn, none, 0, 0, a.d, 0⟩ w7.heap.size 1 rfl (Blk.lay (Blk.new _ _ _)) (by unfold maxLen; omega) (by omega) (by simp; omega) ?_
                 intro g9 cap9 w9 hown9 hgrow hat hlt9))
            have HI9 := Lib.hid (HI7.out.app (ws := [⟨2, conn, [], a.d, 0⟩]) _ hgrow hat hown9 rfl (StsR.one ⟨rfl, rfl, Sl.nil, rfl, rfl⟩) (Apart.none rfl))
            clear hown9 hgrow hat
            go_roundw
            case rel => exact ⟨k + 1, l2 ++ [⟨2, conn, none, 0, 0, a.d, 0⟩], some ⟨g9, 0, none⟩, cap9, by omega, by go_num, Lib.hid (by rw [← HL2.out, ← HL1.out]; simp [HLL.out]; omega), by simp; omega, by simp, Lib.hid (by
                have := HI9.out
                rw [HTA.out, List.flatMap_append]
                simpa [st3, HFL.out] using this), Lib.hid (fun a' ha' => by
              rw [HTA.out] at ha'
              rcases List.mem_append.1 ha' with h | h
              · exact HALL.out a' h
              · simp only [List.mem_cons, List.not_mem_nil, or_false] at h
                rw [h]
                exact HYES.out)⟩
            case measure => simp [intOf]; omega
          · have HNT := Lib.hid (HNO.out (by unfold okAk tkB; simp [ht1]))
            go_wp2_with fail
            go_ret2
            exact .inr ⟨HNT.out, _, rfl, by first | exact HI4.out.bel | exact HI4.out.bel.alloc HI4.out.bel.size _⟩
        · have HNT := Lib.hid (HNO.out (by unfold okAk tkB; simp [ht0]))
          go_wp2_with fail
          go_ret2
          exact .inr ⟨HNT.out, _, rfl, by first | exact HI4.out.bel | exact HI4.out.bel.alloc HI4.out.bel.size _⟩
    · obtain rfl : k = l.length := by omega
      have HYES := Lib.hid (all_yes HALL.out)
      by_cases h0 : 0 ≤ conn
      · by_cases h8 : conn < 8
        · have hcn : cnB conn = true := by simp [cnB, h0, h8]
          go_wp2_with fail
          go_ret2
          exact .inl ⟨HYES.out, _, ls, by rw [hcn]; rfl, HI.out.own.sl, by have := HI.out.sts; rwa [List.take_length] at this, HI.out.bel⟩
        · have hcn : cnB conn = false := by simp [cnB, h8]
          go_wp2_with fail
          go_ret2
          exact .inl ⟨HYES.out, _, ls, by rw [hcn]; rfl, HI.out.own.sl, by have := HI.out.sts; rwa [List.take_length] at this, HI.out.bel⟩
      · have hcn : cnB conn = false := by simp [cnB, h0]
        go_wp2_with fail
        go_ret2
        exact .inl ⟨HYES.out, _, ls, by rw [hcn]; rfl, HI.out.own.sl, by have := HI.out.sts; rwa [List.take_length] at this, HI.out.bel⟩
end Go.Proofs.YtmgpfkoomlgcoaaGreat
