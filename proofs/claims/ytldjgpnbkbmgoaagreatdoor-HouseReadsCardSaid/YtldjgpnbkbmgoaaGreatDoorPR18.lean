/-
  HouseReads: the law. Conditions: what 'known' gives is a premise here. A string opened, and how long it may be. Conditions: none. A law over the laid tables: its step, and a world that holds the tables. Conditions: none.
-/
import Derived.Test.YtldjgpnbkbmgoaaGreatDoorPR17
import Derived.Test.YtldjgpnbkbmgoaaGreatDoorPR16
import Derived.Test.YtldjgpnbkbmgoaaGreatDoorPR2
import Derived.Test.YtldjgpnbkbmgoaaGreatDoorPR1
import Derived.Test.YtldjgpnbkbmgoaaGreatDoorCards
import Derived.Test.YtldjgpnbkbmgoaaGreatDoorTie
import Derived.WalkKit
import Derived.ProofKit
import Derived.OpenShut
import Derived.Deep.DeepHandedRow
import Derived.Lib.LaidTab
set_option linter.unusedSimpArgs false
set_option linter.unusedVariables false
set_option maxRecDepth 100000
set_option maxHeartbeats 8000000
namespace Go.Proofs.YtldjgpnbkbmgoaaGreatDoor
open Go.RowKit Go.Lib
attribute [local go_sem ↓] load_req stop_req
theorem enc_fits {q : Req} (h : encOk q = true) : q.fits := by
  obtain ⟨h1, h2⟩ := enc_good h
  rw [h2]
  exact good_fits h1
theorem itOk_fits {x : HIt} (h : itOk x = true) : x.q.fits := by
  unfold itOk at h
  have hb : ∀ q : Req, bareB q = true → q.fits := fun q hq => by rw [bareB_eq hq]; exact zeroR_fits
  repeat' split at h
  all_goals
    try simp only [Bool.and_eq_true, decide_eq_true_eq] at h
    first | exact hb _ h.2.2.2.2 | exact hb _ h.2.2.2 | exact enc_fits h.2.2.2 | exact absurd h (by decide)
structure RP (w wx : World) (g : Nat) (vs vi : Value) (ss : List Nat) (rs : List HRw) (e : Int) (line : Nat) : Prop where
  b : Blk wx g 26 (jC vs vi)
  f : Blk wx (g + 1) 31 (fC e line)
  j : JSl wx vs vi ss rs
  bel : Below w.heap.size w wx
section
variable {w wx wy : World} {g : Nat} {vs vi : Value} {ss : List Nat} {rs : List HRw} {e : Int} {line : Nat}
theorem RP.to (h : RP w wx g vs vi ss rs e line) (hb : Below wx.heap.size wx wy) : RP w wy g vs vi ss rs e line :=
  ⟨h.b.below hb h.b.lt, h.f.below hb h.f.lt, h.j.below hb, h.bel.trans (hb.mono h.bel.size)⟩
theorem RP.drew (h : RP w wx g vs vi ss rs e line) : RP w wx.drew g vs vi ss rs e line := h.to (below_drew (Below.refl _ _))
theorem RP.cells (h : RP w wx g vs vi ss rs e line) : wx.cell? ⟨g, 0, none⟩ = some vs ∧ wx.cell? ⟨g, 1, none⟩ = some vi := ⟨h.b.is 0 rfl, h.b.is 1 rfl⟩
theorem RP.cells5 (hne : e ≠ 0) (h : RP w wx g vs vi ss rs e line) : wx.cell? ⟨g, 0, none⟩ = some vs ∧ wx.cell? ⟨g, 1, none⟩ = some vi ∧ wx.cell? ⟨g + 1, 0, none⟩ = some (.int .i64 e) ∧ wx.cell? ⟨g + 1, 1, none⟩ = some (.int .i64 (line : Nat)) ∧ wx.cell? ⟨g + 1, 2, none⟩ = some (.int .i64 1) :=
  ⟨h.b.is 0 rfl, h.b.is 1 rfl, h.f.is 0 rfl, h.f.is 1 rfl, by
    have h2 := h.f.is 2 (a := .int .i64 (if e = 0 then 0 else 1)) rfl
    rwa [if_neg hne] at h2⟩
end
theorem jsl_nil (w : World) : JSl w nilV nilV [] [] := ⟨Sl.nil, Sl.nil, fun r hr => (by cases hr), fun s hs => (by cases hs)⟩
theorem law_reads (HKn : Knows) (s : List UInt8) (w : World) (hl : s.length ≤ 140737488355328) : Calls Tryz.prog 6 #[strV s] w (fun e w' => e = .returned (.bool true) ∧ Below w.heap.size w w') := by
  have HK := Lib.hid HKn
  have hz := str_size s
  clear HKn
  by_cases h6 : 6000 < s.length
  · have h6' : (6000 : Int) < (s.length : Int) := by omega
    go_enter Tryz.func6, Tryz.ntmps6
    go_wp2_with fail
    refine (HK.out _).mono ?_
    rintro e w1 ⟨rfl, hb⟩
    have HB := Lib.hid hb
    clear hb
    go_wp2_with fail
    go_ret
    exact ⟨rfl, HB.out⟩
  have h6' : ¬ (6000 : Int) < (s.length : Int) := by omega
  have HP1 := Lib.hid (fun w => Parse_ok s w hl)
  unfold PaPost at HP1
  rcases parse_errs (s := s) (by omega) with h0 | h60
  · obtain ⟨hj, ht, hss, hxs⟩ := parse_back h0
    obtain ⟨P, hP⟩ : ∃ P, parse s = P := ⟨_, rfl⟩
    rw [hP] at HP1 h0 hj ht hss hxs
    have k1 : (P.err != 0) = false := by simp [h0]
    obtain ⟨j1, j2, j3, j4, j5⟩ := (jobOk_iff _ _).1 hj
    have HQ := Lib.hid (fun x (hx : x ∈ P.xs) => And.intro (itOk_fits (j5 x hx)) (And.intro (itOk_ib (j5 x hx)) (hxs x hx)))
    have HSS := Lib.hid hss
    have HJO := Lib.hid hj
    have HJT := Lib.hid ht
    have HX3 := Lib.hid j3
    clear hP h0 hj ht hss hxs j1 j2 j3 j4 j5
    go_enter Tryz.func6, Tryz.ntmps6
    go_wp2_with fail
    refine (HP1.out _).mono ?_
    rintro e w1 ⟨vs1, vi1, rs1, rfl, ho1, ho2, hxs, hby, hb⟩
    have HO1 := Lib.hid ho1
    have HO2 := Lib.hid ho2
    have HXS := Lib.hid hxs
    have HBY := Lib.hid hby
    obtain ⟨A1, c1, rfl⟩ := ho1.form
    obtain ⟨B1, d1, rfl⟩ := ho2.form
    have HF1 := Lib.hid (FB.laid (hb) (.slice A1 P.ss.length c1) (.slice B1 rs1.length d1) P.err P.line)
    have HL1 := Lib.hid (lay0_j w1)
    have HM1 := Lib.hid (lay0_f w1)
    have HJ1 := Lib.hid (lay2_j w1 (.slice A1 P.ss.length c1) (.slice B1 rs1.length d1) P.err P.line)
    have HB1 := Lib.hid (lay2_below w1 (.slice A1 P.ss.length c1) (.slice B1 rs1.length d1) P.err P.line)
    have HZ1 := Lib.hid hb
    have hst1 : (w1.alloc (.cells (jC nilV nilV) 26)).alloc (.cells #[.int .i64 0, .int .i64 0, .int .i64 0] 31) = lay0 w1 := rfl
    clear ho1 ho2 hxs hby hb
    have h2j := (pa_jsl HO1.out HO2.out HXS.out HBY.out HQ.out HSS.out).below HB1.out
    have hrl : rs1.length ≤ 100000 := by
      have h1 := congrArg List.length HXS.out
      have h2 := HX3.out
      simp only [xsOf, List.length_map] at h1
      omega
    have HRL := Lib.hid hrl
    have hjo : jobOk P.ss (xsOf rs1) = true := by rw [HXS.out]; exact HJO.out
    have HJO2 := Lib.hid hjo
    obtain ⟨w2, hw2⟩ : ∃ w2, lay2 w1 (.slice A1 P.ss.length c1) (.slice B1 rs1.length d1) P.err P.line = w2 := ⟨_, rfl⟩
    rw [hw2] at HF1 HJ1 HB1 h2j
    have h2 : RP w w2 w1.heap.size (.slice A1 P.ss.length c1) (.slice B1 rs1.length d1) P.ss rs1 P.err P.line := ⟨HJ1.out, HF1.out.b, h2j, HF1.out.bel⟩
    have H2 := Lib.hid h2
    have d0 := HF1.out.err
    have HPR := Lib.hid (hPrint_ok _ _ P.ss rs1 w2 h2j)
    unfold HPPost at HPR
    rw [hjo] at HPR
    simp only [if_true] at HPR
    have HIT := Lib.hid (fun wx (hx : RP w wx w1.heap.size (.slice A1 P.ss.length c1) (.slice B1 rs1.length d1) P.ss rs1 P.err P.line) => items_ok _ rs1 wx hx.j.i HRL.out)
    have HRR := Lib.hid (fun vr wx (hx : RP w wx w1.heap.size (.slice A1 P.ss.length c1) (.slice B1 rs1.length d1) P.ss rs1 P.err P.line) (hs : Sl hiC wx wx.heap.size vr rs1) => rright29_ok (.slice A1 P.ss.length c1) vr P.ss rs1 wx ⟨hx.j.s, hs, hx.j.ok, hx.j.sl⟩)
    rw [hjo] at HRR
    have ht2 : jobT P.ss (xsOf rs1) = s := by rw [HXS.out]; exact HJT.out
    rw [ht2] at HPR
    clear h2 h2j hrl hjo ht2
    go_wp2_with (first
      | (refine wpList_store_row rfl 26 (.tmp 3) (.tmp 14) rfl w1.heap.size (jC (.slice A1 P.ss.length c1) (.slice B1 rs1.length d1)) rfl rfl 26 _ HL1.out (job_size _ _) rfl (jC_one _ _ _ _ _ _) ?_)
        | (refine wpList_store_row rfl 31 (.tmp 4) (.tmp 15) rfl (w1.heap.size + 1) (fC P.err P.line) rfl rfl 31 _ (HM1.out.farRow (by omega) _) (flt_size _ _) rfl (flt_one _ _) ?_)
      | (refine load_bx rfl 26 (.tmp 3) rfl w1.heap.size rfl 26 (jC (.slice A1 P.ss.length c1) (.slice B1 rs1.length d1)) _ HJ1.out Tryz.underlying26 rfl (job_size _ _) ?_))
    refine HPR.out.mono ?_
    rintro e w3 ⟨rfl, hb⟩
    have h3 := H2.out.to hb
    have h3d := h3.drew
    clear hb
    go_upto_region 7 with fail
    go_region_held3 (fun wx => wx.cell? ⟨w1.heap.size, 0, none⟩ = some (.slice A1 P.ss.length c1) ∧ wx.cell? ⟨w1.heap.size, 1, none⟩ = some (.slice B1 rs1.length d1)) (first | exact RP.cells (w := w) (vs := .slice A1 P.ss.length c1) (vi := .slice B1 rs1.length d1) (ss := P.ss) (rs := rs1) (e := P.err) (line := P.line) (by assumption) | go_keep) (first
      | ((with_reducible refine (HIT.out _ (by assumption)).mono ?_); rintro e wa ⟨vr, rfl, ho, hba⟩; have hxa := RP.to (w := w) (g := w1.heap.size) (vs := .slice A1 P.ss.length c1) (vi := .slice B1 rs1.length d1) (ss := P.ss) (rs := rs1) (e := P.err) (line := P.line) (by assumption) hba; have hsr := ho.sl; clear hba ho)
      | ((with_reducible refine (HRR.out _ _ (by assumption) (by assumption)).mono ?_); rintro e wb ⟨rfl, hbb⟩; have hxb := RP.to (w := w) (g := w1.heap.size) (vs := .slice A1 P.ss.length c1) (vi := .slice B1 rs1.length d1) (ss := P.ss) (rs := rs1) (e := P.err) (line := P.line) (by assumption) hbb; clear hbb)
      | ((with_reducible refine (HK.out _).mono ?_); rintro e wf ⟨rfl, hbf⟩; have hxf := RP.to (w := w) (g := w1.heap.size) (vs := .slice A1 P.ss.length c1) (vi := .slice B1 rs1.length d1) (ss := P.ss) (rs := rs1) (e := P.err) (line := P.line) (by assumption) hbf; clear hbf))
    all_goals
      go_wp2_with fail
      go_ret
      exact ⟨rfl, hxf.bel⟩
  · obtain ⟨P, hP⟩ : ∃ P, parse s = P := ⟨_, rfl⟩
    have hpf := parse_fault (s := s) (by omega) h60
    rw [hP] at HP1 h60 hpf
    obtain ⟨f1, f2, f3, -, -⟩ := hpf
    have hlc := linesN_count s
    obtain ⟨N, hN⟩ : ∃ N, N = linesN s := ⟨_, rfl⟩
    rw [← hN] at hlc
    have HLN := Lib.hid (fun wx => lines_ok s wx (by omega))
    rw [← hN] at HLN
    have k1 : (P.err != 0) = true := by simp [h60]
    have k2 : (P.err == 60) = true := by simp [h60]
    have k3 : (1 : Int) ≤ (P.line : Int) := by omega
    have k4 : (P.line : Int) ≤ (N : Int) + 1 := by omega
    have k5 : (P.line : Int) ≤ IntKind.i64.wrap ((N : Int) + 1) := by rw [IntKind.wrap_i64]; omega
    have hss : P.ss = [] := by rw [f1]
    have hxs0 : P.xs = [] := by rw [f1]
    have HS0 := Lib.hid hss
    have HX0 := Lib.hid hxs0
    have hne : ¬ P.err = 0 := by rw [h60]; decide
    clear hP h60 f1 f2 f3 hlc hN hss hxs0
    go_enter Tryz.func6, Tryz.ntmps6
    go_wp2_with fail
    refine (HP1.out _).mono ?_
    rintro e w1 ⟨vs1, vi1, rs1, rfl, ho1, ho2, hxs, hby, hb⟩
    have HO1 := Lib.hid ho1
    have HO2 := Lib.hid ho2
    have HXS := Lib.hid hxs
    have HBY := Lib.hid hby
    obtain ⟨A1, c1, rfl⟩ := ho1.form
    obtain ⟨B1, d1, rfl⟩ := ho2.form
    have HF1 := Lib.hid (FB.laid (hb) (.slice A1 P.ss.length c1) (.slice B1 rs1.length d1) P.err P.line)
    have HL1 := Lib.hid (lay0_j w1)
    have HM1 := Lib.hid (lay0_f w1)
    have HJ1 := Lib.hid (lay2_j w1 (.slice A1 P.ss.length c1) (.slice B1 rs1.length d1) P.err P.line)
    have HB1 := Lib.hid (lay2_below w1 (.slice A1 P.ss.length c1) (.slice B1 rs1.length d1) P.err P.line)
    have HZ1 := Lib.hid hb
    have hst1 : (w1.alloc (.cells (jC nilV nilV) 26)).alloc (.cells #[.int .i64 0, .int .i64 0, .int .i64 0] 31) = lay0 w1 := rfl
    clear ho1 ho2 hxs hby hb
    have hr0 : rs1 = [] := by
      have h1 := HXS.out
      rw [HX0.out] at h1
      exact List.map_eq_nil_iff.1 h1
    have h2j := (pa_jsl HO1.out HO2.out HXS.out HBY.out (fun x hx => by rw [HX0.out] at hx; cases hx) (fun x hx => by rw [HS0.out] at hx; cases hx)).below HB1.out
    obtain ⟨w2, hw2⟩ : ∃ w2, lay2 w1 (.slice A1 P.ss.length c1) (.slice B1 rs1.length d1) P.err P.line = w2 := ⟨_, rfl⟩
    rw [hw2] at HF1 HJ1 HB1 h2j
    have h2 : RP w w2 w1.heap.size (.slice A1 P.ss.length c1) (.slice B1 rs1.length d1) P.ss rs1 P.err P.line := ⟨HJ1.out, HF1.out.b, h2j, HF1.out.bel⟩
    have h2d := h2.drew
    have HSM := Lib.hid (fun wx (hx : RP w wx w1.heap.size (.slice A1 P.ss.length c1) (.slice B1 rs1.length d1) P.ss rs1 P.err P.line) => same_ok (.slice A1 P.ss.length c1) (.slice B1 rs1.length d1) nilV nilV P.ss rs1 [] wx hx.j (by rw [HS0.out]; exact jsl_nil wx) (by rw [hr0]))
    unfold BPost at HSM
    have d0 := HF1.out.err
    have HNE := Lib.hid hne
    clear h2j hr0 hne
    go_upto_region 5 with (first
      | (refine wpList_store_row rfl 26 (.tmp 3) (.tmp 14) rfl w1.heap.size (jC (.slice A1 P.ss.length c1) (.slice B1 rs1.length d1)) rfl rfl 26 _ HL1.out (job_size _ _) rfl (jC_one _ _ _ _ _ _) ?_)
        | (refine wpList_store_row rfl 31 (.tmp 4) (.tmp 15) rfl (w1.heap.size + 1) (fC P.err P.line) rfl rfl 31 _ (HM1.out.farRow (by omega) _) (flt_size _ _) rfl (flt_one _ _) ?_))
    go_region_held3 (fun wx => wx.cell? ⟨w1.heap.size, 0, none⟩ = some (.slice A1 P.ss.length c1) ∧ wx.cell? ⟨w1.heap.size, 1, none⟩ = some (.slice B1 rs1.length d1) ∧ wx.cell? ⟨w1.heap.size + 1, 0, none⟩ = some (.int .i64 P.err) ∧ wx.cell? ⟨w1.heap.size + 1, 1, none⟩ = some (.int .i64 (P.line : Nat)) ∧ wx.cell? ⟨w1.heap.size + 1, 2, none⟩ = some (.int .i64 1)) (first | exact RP.cells5 HNE.out (w := w) (vs := .slice A1 P.ss.length c1) (vi := .slice B1 rs1.length d1) (ss := P.ss) (rs := rs1) (e := P.err) (line := P.line) (by assumption) | go_keep) (first
      | ((with_reducible refine (HSM.out _ (by assumption)).mono ?_); rintro e wa ⟨rfl, hba⟩; have hxa := RP.to (w := w) (g := w1.heap.size) (vs := .slice A1 P.ss.length c1) (vi := .slice B1 rs1.length d1) (ss := P.ss) (rs := rs1) (e := P.err) (line := P.line) (by assumption) hba; clear hba)
      | ((with_reducible refine (HLN.out _).mono ?_); rintro e wl ⟨rfl, rfl⟩)
      | ((with_reducible refine (HK.out _).mono ?_); rintro e wf ⟨rfl, hbf⟩; have hxf := RP.to (w := w) (g := w1.heap.size) (vs := .slice A1 P.ss.length c1) (vi := .slice B1 rs1.length d1) (ss := P.ss) (rs := rs1) (e := P.err) (line := P.line) (by assumption) hbf; clear hbf))
    all_goals
      go_wp2_with fail
      go_ret
      exact ⟨rfl, hxf.bel⟩
end Go.Proofs.YtldjgpnbkbmgoaaGreatDoor

namespace Go.Proofs.YtldjgpnbkbmgoaaGreatDoor
open Go.RowKit Go.ChangeShapes Go.WideShapes
section
variable {H : Type} {enc : TypeId × Value → H} {w : World} {base : Nat} {spare : Nat → Bool} {held : Bool}
theorem strh_fits {b : List UInt8} {ts : List TypeId} {ds : List (DataW H)} {j : Nat} (hd : ds[j]? = some (.lit (.string b))) (ht : ts[j]? = some 9) (h : (DataW.weightsEach Tryz.prog ts ds).all (· ≤ reachBytes) = true) : b.length ≤ 140737488355328 := by
  have h1 := List.all_eq_true.1 h _ (DataW.weights_mem_each ht hd b.length (by simp [DataW.weights]))
  have h2 : b.length ≤ reachBytes := by simpa using h1
  have h3 : reachBytes + 4096 = 140737488355328 := by decide
  omega
theorem open_strh {r : Reach} {b0 : Nat} {v : Value} {d : DataW H} {ps : List MemPlace} (hv : Value.okWide Tryz.prog w r b0 9 v) (h : DataW.Trod enc Tryz.prog w base spare held 9 v d ps) : ∃ a : ByteArray, v = .string a ∧ d = .lit (.string a.data.toList) := by
  obtain ⟨s, rfl⟩ := okWide_string Tryz.underlying9 hv
  obtain ⟨fuel, hf⟩ := h
  obtain ⟨s', h, hx, _⟩ := DataW.trod_string Tryz.underlying9 hf
  simp [Value.cells] at h
  subst h
  simp only [Prod.mk.injEq] at hx
  exact ⟨s, rfl, hx.1⟩
end
end Go.Proofs.YtldjgpnbkbmgoaaGreatDoor

namespace Go.Proofs.YtldjgpnbkbmgoaaGreatDoor
open Go.RowKit Go.ChangeShapes Go.WideShapes Go.ChangeAt
section
variable {H : Type} {enc : TypeId × Value → H}
theorem law_lifts_row {C : Checked} (own : ownKnob C.prog.godebug = none) (hl : laidOutB C.prog = true) {os : Os} (started : os.Started) {f : FuncId} {fn : Func} {s : ChangeSpec} {kk : Option ((H : Type) → List (DataW H) → Bool)} {apart fresh handsOn : Bool} {laid : List (String × DataW Unit)} {F : Stop.Interp} {tb : TypeId}
    (noInit : C.prog.inits.idxOf? f = none) (hfn : C.prog.funcs[f]? = some fn)
    (hb : C.prog.underlying tb = some .bool) (hr : fn.resultTypes = #[tb]) (hts : ∀ t ∈ fn.params.toList, C.prog.readableRec t = true ∧ t < C.prog.types.size) (hv : s.vars = [])
    (hspec : ∀ ds : List (DataW H), ds.length = fn.params.toList.length → (s.fn H ds).results = [.lit (.bool true)] ∧ (s.fn H ds).args = ds ∧ (s.fn H ds).vars = [])
    (witness : ∃ (w : World) (tape : Tape) (i : Input), w.os = os ∧ (w.forCall tape i).Shaped C.prog ∧ i.vars = [] ∧ Input.okWide C.prog (w.forCall tape i) .any w.heap.size f i ∧
      ({ OpenSpec.ofChange s with cond := kk } : OpenSpec).preRow enc C.prog fn [] apart laid (w.forCall tape i).memory i.args ∧ ({} : Assume).holds C.prog (lone (Frame.enter C.prog f i.args .normal) [] (w.forCall tape i)))
    (contract : ∀ (W : World) (base : Nat) (args : Array Value) (ds : List (DataW H)) (ps : List MemPlace),
      (∀ (j : Nat) t v, fn.params[j]? = some t → args[j]? = some v → Value.okWide C.prog W .any base t v) →
      DataW.TrodAll enc C.prog W 0 (fun _ => true) true fn.params.toList args.toList ds ps → (∀ k, kk = some k → k H ds = true) → (DataW.weightsEach C.prog fn.params.toList ds).all (· ≤ reachBytes) = true → Calls C.prog f args W (Holds W)) :
    ReturnsInHanded {} C os f .any (({ OpenSpec.ofChange s with cond := kk } : OpenSpec).preRow enc C.prog fn [] apart laid) ((({ OpenSpec.ofChange s with cond := kk } : OpenSpec).at F).post enc C.prog fn apart fresh handsOn false) := by
  refine returnsInHanded_of_row (s := { OpenSpec.ofChange s with cond := kk }) own started noInit hfn witness ?_
  intro W base args ds gs before hval hW _ hk hwt _ _ _
  have hW0 : DataW.Whole enc C.prog fn.params.toList s.vars apart W args.toList ds gs before := hW
  obtain ⟨p, q, hA, hV, rfl, hfz, hnd⟩ := hW0
  have hvt : s.plain.varTypes C.prog = [] := by
    unfold DataSpec.varTypes ChangeSpec.plain
    simp [hv]
  have hV2 := hV
  rw [hv] at hV2
  obtain ⟨rfl, rfl⟩ := trodVars_none hV2
  have hwt2 : (DataW.weightsEach C.prog (fn.params.toList ++ s.plain.varTypes C.prog) (ds ++ [])).all (· ≤ reachBytes) = true := hwt
  rw [hvt, List.append_nil, List.append_nil] at hwt2
  have hk2 : ∀ k, kk = some k → k H ds = true := fun k e => by
    have := hk k e
    rwa [List.append_nil] at this
  exact (contract W base args ds p hval hA hk2 hwt2).mono fun e W' ⟨he, hbel⟩ => ⟨_, he, law_post hl hb hr hts hv hspec hW hbel⟩
end
def firstC : Array Value := (Go.Pinned.utf8FirstZ.map fun (n : Nat) => Value.int .u8 (n : Int)).toArray
def rangesC : Array Value := #[.int .u8 128, .int .u8 191, .int .u8 160, .int .u8 191, .int .u8 128, .int .u8 159, .int .u8 144, .int .u8 191, .int .u8 128, .int .u8 143, .int .u8 0, .int .u8 0, .int .u8 0, .int .u8 0, .int .u8 0, .int .u8 0, .int .u8 0, .int .u8 0, .int .u8 0, .int .u8 0, .int .u8 0, .int .u8 0, .int .u8 0, .int .u8 0, .int .u8 0, .int .u8 0, .int .u8 0, .int .u8 0, .int .u8 0, .int .u8 0, .int .u8 0, .int .u8 0]
def relay (cs : Array Value) : Obj → Obj
  | .cells _ t frozen => .cells cs t frozen
  | o => o
noncomputable def laidWorld (os : Os) : World :=
  { World.holding Tryz.prog os ⟨#[], #[], []⟩ with heap := ((World.holding Tryz.prog os ⟨#[], #[], []⟩).heap.modify 1 (relay firstC)).modify 2 (relay rangesC) }
def laidTab : List (String × DataW Unit) := [("unicode/utf8.acceptRanges", Rows.laid_unicode_utf8_acceptRanges), ("unicode/utf8.first", Rows.laid_unicode_utf8_first)]
theorem laid_met (os : Os) (args : Array Value) : laidMet Tryz.prog laidTab ((laidWorld os).forCall (fun _ _ => 0) ⟨#[], args, []⟩).memory :=
  laidMet_of_run' 8 (by kernel_rfl) (by kernel_rfl)
end Go.Proofs.YtldjgpnbkbmgoaaGreatDoor

