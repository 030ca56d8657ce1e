/-
  ScriptAsks: any asks have their steps, or may not be. Conditions: as each states.
-/
import Derived.Test.YtmgpfkoomlgcoaaGreatRAsks
import Derived.Test.YtmgpfkoomlgcoaaGreatKn25
import Derived.Great.BuildSlice
namespace Go.Proofs.YtmgpfkoomlgcoaaGreat
open Go.RowKit Go.Lib
attribute [local go_sem ↓] load_req stop_req

theorem rask_elem : ElemOk Tryz.prog 84 86 26 216 := ⟨Tryz.underlying84, by
  have h : (Tryz.prog.info? 86).map (fun i => (i.zero, i.size, i.bytes)) = some (some (.agg zeroAk), 26, 216) := by kernel_rfl
  obtain ⟨i, hi, h1, h2, h3⟩ := info_parts h
  exact ⟨i, _, hi, h1, h2, h3, rfl⟩, by omega⟩

set_option maxRecDepth 100000 in
theorem asks_fill (a : Akt) : Instr.fill (fun i => some (i * 26, 26)) ((Array.range (1 * 26)).map ((Value.agg zeroAk).cells[· % (Value.agg zeroAk).cells.size]!)) [(0, Value.agg (akA a))] = some (akA a) := by kernel_rfl

set_option maxRecDepth 100000 in
/-- A row of one ask is made. -/
theorem ask_lit {ops : Array Oper} {rest : List Oper} {o : Oper} {f : Act} {w : World} {Q : Exit → Act → World → Prop} (hg : o.guard = none) (x : Operand) (ho : o.op = .buildSlice 84 1 #[(0, x)]) (a : Akt) (hx : f.eval x = .agg (akA a))
    (h : wpList Tryz.prog ops Q rest (f.put o.dst (.slice (some ⟨w.heap.size, 0, none⟩) 1 1)) (w.alloc (.cells (akA a) 86))) : wpList Tryz.prog ops Q (o :: rest) f w := by
  obtain ⟨ie, hie, hiz, his, hib⟩ : ∃ ie, Tryz.prog.info? 86 = some ie ∧ ie.zero = some (.agg zeroAk) ∧ ie.size = 26 ∧ ie.bytes = 216 := info_parts (by kernel_rfl)
  have hp : ((#[(0, x)] : Array (Nat × Operand)).map fun (i, x) => (i, f.eval x)).toList = [(0, Value.agg (akA a))] := by simp [hx]
  refine wpList_buildSlice hg 84 86 1 _ ho (akA a) ie _ Tryz.underlying84 hie hiz (by rw [his]; decide) (by rw [his]; decide) ?_ h
  rw [hp, his]
  exact asks_fill a

set_option maxRecDepth 100000 in
theorem asks_many (conn : Int) (A : Option Addr) (n ca : Nat) (h : 60 < n) (w : World) : Calls Tryz.prog 6 #[.int .i64 conn, .slice A n ca] w (fun e w' => e = .returned (.bool true) ∧ Below w.heap.size w w') := by
  have HK := Lib.hid (fun w => known25_ok w)
  go_enter Tryz.func6, Tryz.ntmps6
  go_wp2_with fail
  refine (HK.out _).mono ?_
  rintro e w1 ⟨rfl, hb⟩
  have H1 := Lib.hid hb
  clear hb
  go_wp2_with fail
  go_ret
  exact ⟨rfl, H1.out⟩

set_option maxRecDepth 100000 in
set_option maxHeartbeats 4000000 in
theorem asks_few (conn : Int) (l : List Akt) (v : Value) (w : World) (hs : Sl akC w w.heap.size v l) (hf : ∀ a ∈ l, a.q.fits ∧ a.q.ib) (hl : l.length ≤ 60) :
    Calls Tryz.prog 6 #[.int .i64 conn, v] w (fun e w' => e = .returned (.bool true) ∧ Below w.heap.size w w') := by
  have HK := Lib.hid (fun w => known25_ok w)
  have HF := Lib.hid hf
  have HS := Lib.hid hs
  obtain ⟨A, ca, rfl, h1, h2, h3⟩ := hs
  have H3 := Lib.hid h3
  clear h3 hf h2
  go_enter Tryz.func6, Tryz.ntmps6
  go_wp2_with fail
  go_loopw [5, 6] (fun out i wr => ∃ (k : Nat) (q : List Akt) (A' : Option Addr) (c' : Nat), k ≤ l.length ∧ i = .int .i64 (k : Nat) ∧ Hid (q = l.take k) ∧ q.length ≤ k ∧ out = .slice A' q.length c' ∧ Hid (Own akC 26 86 wr w.heap.size (.slice A' q.length c') q) ∧ Hid (Below w.heap.size w wr)) (fun _ i _ => (l.length - intOf i).toNat)
  case atStart => exact ⟨0, [], none, 0, Nat.zero_le _, rfl, Lib.hid rfl, by simp, rfl, Lib.hid Own.nil, Lib.hid (Below.refl _ _)⟩
  case round =>
    obtain ⟨k, q, A', c', hk, rfl, HQ, hql, rfl, HO, HB⟩ := hrel
    have hsz := HB.out.size
    by_cases hlt : k < l.length
    · obtain ⟨b, off, rfl, hb, hlay⟩ := H3.out (by omega)
      have hrow := (hlay.of_heap (HB.out.block b hb)).elem akC_len k hlt
      have hta := List.take_succ_eq_append_getElem hlt
      obtain ⟨a, ha⟩ : ∃ a, a = l[k] := ⟨_, rfl⟩
      rw [← ha] at hrow hta
      have HROW := Lib.hid hrow
      have HTA := Lib.hid hta
      clear hrow hta ha hlay
      go_wp2_with (first
        | (refine load_arr rfl 87 (.tmp 24) rfl b (off + k * 26) rfl (akA a) _ HROW.out Tryz.underlying87 rfl (ask_size a) ?_)
        | (refine ask_lit rfl (.tmp 25) rfl a rfl ?_)
        | (at_builtin; refine app_one rask_elem ak_enc rfl (.tmp 21) (.tmp 26) rfl rfl (HO.out.alloc _) a wr.heap.size 1 rfl (Blk.lay (Blk.new _ _ _)) (by unfold maxLen; omega) (by omega) (by simp; omega) ?_; intro g' cap w1 hown1 hgrow hat hlt1))
      have HO1 := Lib.hid hown1
      have HB1 := Lib.hid ((HB.out.alloc hsz _).grown hgrow (by simp; omega) (fun b hb => (HO.out.lt b hb).1))
      clear hown1 hgrow hat
      go_roundw
      case rel => exact ⟨k + 1, q ++ [a], some ⟨g', 0, none⟩, cap, by omega, by go_num, Lib.hid (by rw [HTA.out, HQ.out]), by simp; omega, by simp, Lib.hid (by simpa using HO1.out), HB1⟩
      case measure => simp [intOf]; omega
    · obtain rfl : k = l.length := by omega
      obtain rfl : q = l := by have := HQ.out; rwa [List.take_length] at this
      have HSL := Lib.hid HO.out.sl
      have HSW := Lib.hid ((HS.out.below HB.out).more HB.out.size)
      by_cases hc : cnB conn = true
      · have HST := Lib.hid (fun wx (h : Sl akC wx wx.heap.size (.slice A q.length ca) q) => steps_ok conn hc q _ wx h (fun a ha => (HF.out a ha).1) hl)
        have HRT := Lib.hid (fun v wx (h : Sl akC wx wx.heap.size v q) => rsteps_ok conn q v wx h HF.out hl)
        have HCN := Lib.hid hc
        clear hc hlt hql hk
        go_wp2_with fail
        refine (HST.out _ HSW.out).mono ?_
        rintro e w1 h
        rcases h with ⟨hall, va, la, rfl, hsa, hra, hb1⟩ | ⟨hall, rfl, hb1⟩
        · have HALL := Lib.hid hall
          have HSA := Lib.hid hsa
          have HRA := Lib.hid hra
          have HB1 := Lib.hid hb1
          have HSL1 := Lib.hid ((HSL.out.below hb1).more hb1.size)
          clear hall hsa hra hb1
          go_wp2_with fail
          refine (HRT.out _ _ HSL1.out).mono ?_
          rintro e w2 h
          rcases h with ⟨hall, vb, lb, rfl, hsb, hrb, hb2⟩ | ⟨hall, vb, rfl, hb2⟩
          · rw [HCN.out]
            have HB2 := Lib.hid (HB.out.trans ((HB1.out.trans (hb2.mono HB1.out.size)).mono hsz))
            have HSA2 := Lib.hid ((HSA.out.below hb2).more hb2.size)
            have HRA2 := Lib.hid (HRA.out.below hb2)
            have HSB := Lib.hid hsb
            have HRB := Lib.hid hrb
            have HOK := Lib.hid (st_ok HCN.out HALL.out HRA2.out)
            clear hall hsb hrb hb2
            go_wp2_with fail
            refine (samesteps_ok la lb _ _ _ _ HSA2.out HSB.out HRA2.out HRB.out).mono ?_
            rintro e w3 ⟨rfl, n, rfl⟩
            go_wp2_with fail
            refine (Right_ok2 la _ _ (HSA2.out.drewN n) HOK.out).mono ?_
            rintro e w4 ⟨rfl, hb4⟩
            have HB4 := Lib.hid ((below_drewN HB2.out n).trans (hb4.mono HB2.out.size))
            clear hb4
            go_wp2_with fail
            refine (HK.out _).mono ?_
            rintro e w5 ⟨rfl, hb5⟩
            have HB5 := Lib.hid (HB4.out.trans (hb5.mono HB4.out.size))
            clear hb5
            go_wp2_with fail
            go_ret
            exact ⟨rfl, HB5.out⟩
          · rw [HALL.out] at hall
            cases hall
        · have HALL := Lib.hid hall
          have HB1 := Lib.hid hb1
          have HSL1 := Lib.hid ((HSL.out.below hb1).more hb1.size)
          clear hall hb1
          go_wp2_with fail
          refine (HRT.out _ _ HSL1.out).mono ?_
          rintro e w2 h
          rcases h with ⟨hall, vb, lb, rfl, hsb, hrb, hb2⟩ | ⟨hall, vb, rfl, hb2⟩
          · rw [HALL.out] at hall
            cases hall
          · have HB2 := Lib.hid (HB.out.trans ((HB1.out.trans (hb2.mono HB1.out.size)).mono hsz))
            clear hall hb2
            go_wp2_with fail
            refine (HK.out _).mono ?_
            rintro e w5 ⟨rfl, hb5⟩
            have HB5 := Lib.hid (HB2.out.trans (hb5.mono HB2.out.size))
            clear hb5
            go_wp2_with fail
            go_ret
            exact ⟨rfl, HB5.out⟩
      · have hc : cnB conn = false := by simpa using hc
        have HST := Lib.hid (fun wx => steps_no conn hc A q.length ca wx)
        have HRT := Lib.hid (fun v wx (h : Sl akC wx wx.heap.size v q) => rsteps_ok conn q v wx h HF.out hl)
        have HCN := Lib.hid hc
        clear hc hlt hql hk
        go_wp2_with fail
        refine (HST.out _).mono ?_
        rintro e w1 ⟨rfl, hb1⟩
        have HB1 := Lib.hid hb1
        have HSL1 := Lib.hid ((HSL.out.below hb1).more hb1.size)
        clear hb1
        go_wp2_with fail
        refine (HRT.out _ _ HSL1.out).mono ?_
        rintro e w2 h
        have hb : ∃ vb, e = .returned (.tuple #[vb, .bool false]) ∧ Below w1.heap.size w1 w2 := by
          rcases h with ⟨hall, vb, lb, rfl, hsb, hrb, hb2⟩ | ⟨hall, vb, rfl, hb2⟩
          · exact ⟨vb, by rw [HCN.out], hb2⟩
          · exact ⟨vb, rfl, hb2⟩
        obtain ⟨vb, rfl, hb2⟩ := hb
        have HB2 := Lib.hid (HB.out.trans ((HB1.out.trans (hb2.mono HB1.out.size)).mono hsz))
        clear hb2 h
        go_wp2_with fail
        refine (HK.out _).mono ?_
        rintro e w5 ⟨rfl, hb5⟩
        have HB5 := Lib.hid (HB2.out.trans (hb5.mono HB2.out.size))
        clear hb5
        go_wp2_with fail
        go_ret
        exact ⟨rfl, HB5.out⟩
end Go.Proofs.YtmgpfkoomlgcoaaGreat
