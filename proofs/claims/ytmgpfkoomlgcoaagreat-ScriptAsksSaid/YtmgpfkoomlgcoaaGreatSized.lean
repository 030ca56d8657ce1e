/-
  Arguments opened: a request, with its text's size. Conditions: none.
-/
import Derived.Test.YtmgpfkoomlgcoaaGreatOpen
import Derived.SizedLaws
namespace Go.Proofs.YtmgpfkoomlgcoaaGreat
open Go.RowKit Go.ChangeShapes Go.WideShapes

section
variable {H : Type} {enc : TypeId × Value → H} {P : Program}
set_option maxRecDepth 100000 in
/-- As law_lifts; the walk is told besides how great what it reads may be. -/
theorem law_lifts_sized {C : Checked} (own : ownKnob C.prog.godebug = none) (hl : laidOutB C.prog = true) {os : Os} (started : os.Started) {f : FuncId} {fn : Func} {s : ChangeSpec} {apart fresh handsOn : Bool} {tb : TypeId}
    (noInit : C.prog.inits.idxOf? f = none) (hfn : C.prog.funcs[f]? = some fn)
    (hb : C.prog.underlying tb = some .bool) (hr : fn.resultTypes = #[tb]) (hts : ∀ t ∈ fn.params.toList, C.prog.readableRec t = true ∧ t < C.prog.types.size) (hv : s.vars = [])
    (hspec : ∀ ds : List (DataW H), ds.length = fn.params.toList.length → (s.fn H ds).results = [.lit (.bool true)] ∧ (s.fn H ds).args = ds ∧ (s.fn H ds).vars = [])
    (witness : ∃ (w : World) (tape : Tape) (i : Input), w.os = os ∧ (w.forCall tape i).Shaped C.prog ∧ i.vars = [] ∧ Input.okWide C.prog (w.forCall tape i) .any w.heap.size f i ∧
      s.pre6 enc C.prog fn [] apart (w.forCall tape i).memory i.args ∧ ({} : Assume).holds C.prog (lone (Frame.enter C.prog f i.args .normal) [] (w.forCall tape i)))
    (contract : ∀ (W : World) (base : Nat) (args : Array Value) (ds : List (DataW H)) (ps : List MemPlace),
      (∀ (j : Nat) t v, fn.params[j]? = some t → args[j]? = some v → Value.okWide C.prog W .any base t v) →
      DataW.TrodAll enc C.prog W 0 (fun _ => true) true fn.params.toList args.toList ds ps → (DataW.weightsEach C.prog fn.params.toList ds).all (· ≤ reachBytes) = true → Calls C.prog f args W (Holds W)) :
    ReturnsInHanded {} C os f .any (s.pre6 enc C.prog fn [] apart) (s.post enc C.prog fn apart fresh handsOn false) := by
  refine returnsInHanded_of_change_sized own started noInit hfn witness ?_
  intro W base args ds gs before hval hW _ hwt _
  have hW0 := hW
  obtain ⟨p, q, hA, hV, rfl, hfz, hnd⟩ := hW
  have hvt : s.plain.varTypes C.prog = [] := by
    unfold DataSpec.varTypes ChangeSpec.plain
    simp [hv]
  rw [hv] at hV
  obtain ⟨rfl, rfl⟩ := trodVars_none hV
  rw [hvt, List.append_nil, List.append_nil] at hwt
  exact (contract W base args ds p hval hA hwt).mono fun e W' ⟨he, hbel⟩ => ⟨_, he, law_post hl hb hr hts hv hspec hW0 hbel⟩
end

section
variable {H : Type} {enc : TypeId × Value → H} {w : World} {base : Nat} {spare : Nat → Bool} {held : Bool}
set_option maxRecDepth 100000 in
theorem u64_of {n : Int} (h : (Lit.int .u64 n).wf = true) : ∃ b : Nat, n = (b : Int) ∧ b < 256 ^ 8 := by
  have h2 : (0 : Int) ≤ n ∧ n ≤ 18446744073709551615 := by
    simp only [Lit.wf, Bool.and_eq_true, decide_eq_true_eq] at h
    have e1 : IntKind.u64.min = 0 := rfl
    have e2 : IntKind.u64.max = 18446744073709551615 := rfl
    omega
  exact ⟨n.toNat, by omega, by omega⟩

set_option maxRecDepth 100000 in
set_option maxHeartbeats 1000000 in
theorem open_req {r : Reach} {b0 : Nat} {v : Value} {d : DataW H} {ps : List MemPlace} (hv : Value.okWide Tryz.prog w r b0 49 v) (h : DataW.Trod enc Tryz.prog w base spare held 49 v d ps) :
    ∃ q : Req, v = .agg (rqC q) ∧ q.ok ∧ q.txt.length ∈ d.weights Tryz.prog 49 := by
  obtain ⟨cs, rfl, hsz⟩ := okWide_struct Tryz.underlying49 hv
  have hC : Tryz.prog.cellsOf 49 = 24 := by kernel_rfl
  have ki : Tryz.prog.cellsOf 3 = 1 := by kernel_rfl
  have ku : Tryz.prog.cellsOf 39 = 1 := by kernel_rfl
  have ks : Tryz.prog.cellsOf 9 = 1 := by kernel_rfl
  have kR : Tryz.prog.cellsOf 43 = 4 := by kernel_rfl
  have kP : Tryz.prog.cellsOf 45 = 2 := by kernel_rfl
  have kA : Tryz.prog.cellsOf 47 = 2 := by kernel_rfl
  obtain ⟨cl⟩ := cs
  match cl, hsz.trans hC with
  | [c0, c1, c2, c3, c4, c5, c6, c7, c8, c9, c10, c11, c12, c13, c14, c15, c16, c17, c18, c19, c20, c21, c22, c23], _ =>
    obtain ⟨fuel, hf⟩ := h
    obtain ⟨ys, n, _, hx, _, hyl, hf⟩ := DataW.trod_struct Tryz.underlying49 hf
    have hyl : ys.length = 19 := hyl
    simp only [Prod.mk.injEq] at hx
    have g0 : DataW.trod enc Tryz.prog w base spare held n 3 (([c0, c1, c2, c3, c4, c5, c6, c7, c8, c9, c10, c11, c12, c13, c14, c15, c16, c17, c18, c19, c20, c21, c22, c23].drop 0).take (Tryz.prog.cellsOf 3)) = some (ys[0]'(by omega)) := (hf 0 _ rfl).trans (List.getElem?_eq_getElem (by omega))
    have g1 : DataW.trod enc Tryz.prog w base spare held n 3 (([c0, c1, c2, c3, c4, c5, c6, c7, c8, c9, c10, c11, c12, c13, c14, c15, c16, c17, c18, c19, c20, c21, c22, c23].drop 1).take (Tryz.prog.cellsOf 3)) = some (ys[1]'(by omega)) := (hf 1 _ rfl).trans (List.getElem?_eq_getElem (by omega))
    have g2 : DataW.trod enc Tryz.prog w base spare held n 3 (([c0, c1, c2, c3, c4, c5, c6, c7, c8, c9, c10, c11, c12, c13, c14, c15, c16, c17, c18, c19, c20, c21, c22, c23].drop 2).take (Tryz.prog.cellsOf 3)) = some (ys[2]'(by omega)) := (hf 2 _ rfl).trans (List.getElem?_eq_getElem (by omega))
    have g3 : DataW.trod enc Tryz.prog w base spare held n 39 (([c0, c1, c2, c3, c4, c5, c6, c7, c8, c9, c10, c11, c12, c13, c14, c15, c16, c17, c18, c19, c20, c21, c22, c23].drop 3).take (Tryz.prog.cellsOf 39)) = some (ys[3]'(by omega)) := (hf 3 _ rfl).trans (List.getElem?_eq_getElem (by omega))
    have g4 : DataW.trod enc Tryz.prog w base spare held n 3 (([c0, c1, c2, c3, c4, c5, c6, c7, c8, c9, c10, c11, c12, c13, c14, c15, c16, c17, c18, c19, c20, c21, c22, c23].drop 4).take (Tryz.prog.cellsOf 3)) = some (ys[4]'(by omega)) := (hf 4 _ rfl).trans (List.getElem?_eq_getElem (by omega))
    have g5 : DataW.trod enc Tryz.prog w base spare held n 3 (([c0, c1, c2, c3, c4, c5, c6, c7, c8, c9, c10, c11, c12, c13, c14, c15, c16, c17, c18, c19, c20, c21, c22, c23].drop 5).take (Tryz.prog.cellsOf 3)) = some (ys[5]'(by omega)) := (hf 5 _ rfl).trans (List.getElem?_eq_getElem (by omega))
    have g6 : DataW.trod enc Tryz.prog w base spare held n 3 (([c0, c1, c2, c3, c4, c5, c6, c7, c8, c9, c10, c11, c12, c13, c14, c15, c16, c17, c18, c19, c20, c21, c22, c23].drop 6).take (Tryz.prog.cellsOf 3)) = some (ys[6]'(by omega)) := (hf 6 _ rfl).trans (List.getElem?_eq_getElem (by omega))
    have g7 : DataW.trod enc Tryz.prog w base spare held n 3 (([c0, c1, c2, c3, c4, c5, c6, c7, c8, c9, c10, c11, c12, c13, c14, c15, c16, c17, c18, c19, c20, c21, c22, c23].drop 7).take (Tryz.prog.cellsOf 3)) = some (ys[7]'(by omega)) := (hf 7 _ rfl).trans (List.getElem?_eq_getElem (by omega))
    have g8 : DataW.trod enc Tryz.prog w base spare held n 3 (([c0, c1, c2, c3, c4, c5, c6, c7, c8, c9, c10, c11, c12, c13, c14, c15, c16, c17, c18, c19, c20, c21, c22, c23].drop 8).take (Tryz.prog.cellsOf 3)) = some (ys[8]'(by omega)) := (hf 8 _ rfl).trans (List.getElem?_eq_getElem (by omega))
    have g9 : DataW.trod enc Tryz.prog w base spare held n 9 (([c0, c1, c2, c3, c4, c5, c6, c7, c8, c9, c10, c11, c12, c13, c14, c15, c16, c17, c18, c19, c20, c21, c22, c23].drop 9).take (Tryz.prog.cellsOf 9)) = some (ys[9]'(by omega)) := (hf 9 _ rfl).trans (List.getElem?_eq_getElem (by omega))
    have g10 : DataW.trod enc Tryz.prog w base spare held n 3 (([c0, c1, c2, c3, c4, c5, c6, c7, c8, c9, c10, c11, c12, c13, c14, c15, c16, c17, c18, c19, c20, c21, c22, c23].drop 10).take (Tryz.prog.cellsOf 3)) = some (ys[10]'(by omega)) := (hf 10 _ rfl).trans (List.getElem?_eq_getElem (by omega))
    have g11 : DataW.trod enc Tryz.prog w base spare held n 3 (([c0, c1, c2, c3, c4, c5, c6, c7, c8, c9, c10, c11, c12, c13, c14, c15, c16, c17, c18, c19, c20, c21, c22, c23].drop 11).take (Tryz.prog.cellsOf 3)) = some (ys[11]'(by omega)) := (hf 11 _ rfl).trans (List.getElem?_eq_getElem (by omega))
    have g12 : DataW.trod enc Tryz.prog w base spare held n 43 (([c0, c1, c2, c3, c4, c5, c6, c7, c8, c9, c10, c11, c12, c13, c14, c15, c16, c17, c18, c19, c20, c21, c22, c23].drop 12).take (Tryz.prog.cellsOf 43)) = some (ys[12]'(by omega)) := (hf 12 _ rfl).trans (List.getElem?_eq_getElem (by omega))
    have g13 : DataW.trod enc Tryz.prog w base spare held n 3 (([c0, c1, c2, c3, c4, c5, c6, c7, c8, c9, c10, c11, c12, c13, c14, c15, c16, c17, c18, c19, c20, c21, c22, c23].drop 16).take (Tryz.prog.cellsOf 3)) = some (ys[13]'(by omega)) := (hf 13 _ rfl).trans (List.getElem?_eq_getElem (by omega))
    have g14 : DataW.trod enc Tryz.prog w base spare held n 39 (([c0, c1, c2, c3, c4, c5, c6, c7, c8, c9, c10, c11, c12, c13, c14, c15, c16, c17, c18, c19, c20, c21, c22, c23].drop 17).take (Tryz.prog.cellsOf 39)) = some (ys[14]'(by omega)) := (hf 14 _ rfl).trans (List.getElem?_eq_getElem (by omega))
    have g15 : DataW.trod enc Tryz.prog w base spare held n 45 (([c0, c1, c2, c3, c4, c5, c6, c7, c8, c9, c10, c11, c12, c13, c14, c15, c16, c17, c18, c19, c20, c21, c22, c23].drop 18).take (Tryz.prog.cellsOf 45)) = some (ys[15]'(by omega)) := (hf 15 _ rfl).trans (List.getElem?_eq_getElem (by omega))
    have g16 : DataW.trod enc Tryz.prog w base spare held n 47 (([c0, c1, c2, c3, c4, c5, c6, c7, c8, c9, c10, c11, c12, c13, c14, c15, c16, c17, c18, c19, c20, c21, c22, c23].drop 20).take (Tryz.prog.cellsOf 47)) = some (ys[16]'(by omega)) := (hf 16 _ rfl).trans (List.getElem?_eq_getElem (by omega))
    have g17 : DataW.trod enc Tryz.prog w base spare held n 3 (([c0, c1, c2, c3, c4, c5, c6, c7, c8, c9, c10, c11, c12, c13, c14, c15, c16, c17, c18, c19, c20, c21, c22, c23].drop 22).take (Tryz.prog.cellsOf 3)) = some (ys[17]'(by omega)) := (hf 17 _ rfl).trans (List.getElem?_eq_getElem (by omega))
    have g18 : DataW.trod enc Tryz.prog w base spare held n 3 (([c0, c1, c2, c3, c4, c5, c6, c7, c8, c9, c10, c11, c12, c13, c14, c15, c16, c17, c18, c19, c20, c21, c22, c23].drop 23).take (Tryz.prog.cellsOf 3)) = some (ys[18]'(by omega)) := (hf 18 _ rfl).trans (List.getElem?_eq_getElem (by omega))
    simp only [ki, ku, ks, kR, kP, kA, List.drop_zero, List.drop_succ_cons, List.take_succ_cons, List.take_zero] at g0 g1 g2 g3 g4 g5 g6 g7 g8 g9 g10 g11 g12 g13 g14 g15 g16 g17 g18
    obtain ⟨a0, e0, -, -⟩ := DataW.trod_int Tryz.underlying3 g0
    obtain ⟨a1, e1, -, -⟩ := DataW.trod_int Tryz.underlying3 g1
    obtain ⟨a2, e2, -, -⟩ := DataW.trod_int Tryz.underlying3 g2
    obtain ⟨n3, e3, -, wf3⟩ := DataW.trod_int Tryz.underlying39 g3
    obtain ⟨a3, rfl, hu3⟩ := u64_of wf3
    obtain ⟨a4, e4, -, -⟩ := DataW.trod_int Tryz.underlying3 g4
    obtain ⟨a5, e5, -, -⟩ := DataW.trod_int Tryz.underlying3 g5
    obtain ⟨a6, e6, -, -⟩ := DataW.trod_int Tryz.underlying3 g6
    obtain ⟨a7, e7, -, -⟩ := DataW.trod_int Tryz.underlying3 g7
    obtain ⟨a8, e8, -, -⟩ := DataW.trod_int Tryz.underlying3 g8
    obtain ⟨a9, e9, hy9, -⟩ := DataW.trod_string Tryz.underlying9 g9
    obtain ⟨a10, e10, -, -⟩ := DataW.trod_int Tryz.underlying3 g10
    obtain ⟨a11, e11, -, -⟩ := DataW.trod_int Tryz.underlying3 g11
    obtain ⟨ys12, n12s, _, _, _, hyl12, hf12⟩ := DataW.trod_struct Tryz.underlying43 g12
    have hyl12 : ys12.length = 4 := hyl12
    have q12 : DataW.trod enc Tryz.prog w base spare held n12s 3 (([c12, c13, c14, c15].drop 0).take (Tryz.prog.cellsOf 3)) = some (ys12[0]'(by omega)) := (hf12 0 _ rfl).trans (List.getElem?_eq_getElem (by omega))
    simp only [ki, List.drop_zero, List.take_succ_cons, List.take_zero] at q12
    obtain ⟨a12, e12, -, -⟩ := DataW.trod_int Tryz.underlying3 q12
    have q13 : DataW.trod enc Tryz.prog w base spare held n12s 3 (([c12, c13, c14, c15].drop 1).take (Tryz.prog.cellsOf 3)) = some (ys12[1]'(by omega)) := (hf12 1 _ rfl).trans (List.getElem?_eq_getElem (by omega))
    simp only [ki, List.drop_zero, List.drop_succ_cons, List.take_succ_cons, List.take_zero] at q13
    obtain ⟨a13, e13, -, -⟩ := DataW.trod_int Tryz.underlying3 q13
    have q14 : DataW.trod enc Tryz.prog w base spare held n12s 3 (([c12, c13, c14, c15].drop 2).take (Tryz.prog.cellsOf 3)) = some (ys12[2]'(by omega)) := (hf12 2 _ rfl).trans (List.getElem?_eq_getElem (by omega))
    simp only [ki, List.drop_zero, List.drop_succ_cons, List.take_succ_cons, List.take_zero] at q14
    obtain ⟨a14, e14, -, -⟩ := DataW.trod_int Tryz.underlying3 q14
    have q15 : DataW.trod enc Tryz.prog w base spare held n12s 3 (([c12, c13, c14, c15].drop 3).take (Tryz.prog.cellsOf 3)) = some (ys12[3]'(by omega)) := (hf12 3 _ rfl).trans (List.getElem?_eq_getElem (by omega))
    simp only [ki, List.drop_zero, List.drop_succ_cons, List.take_succ_cons, List.take_zero] at q15
    obtain ⟨a15, e15, -, -⟩ := DataW.trod_int Tryz.underlying3 q15
    obtain ⟨a16, e16, -, -⟩ := DataW.trod_int Tryz.underlying3 g13
    obtain ⟨n17, e17, -, wf17⟩ := DataW.trod_int Tryz.underlying39 g14
    obtain ⟨a17, rfl, hu17⟩ := u64_of wf17
    obtain ⟨ys18, n18s, _, _, _, hyl18, hf18⟩ := DataW.trod_struct Tryz.underlying45 g15
    have hyl18 : ys18.length = 2 := hyl18
    have q18 : DataW.trod enc Tryz.prog w base spare held n18s 3 (([c18, c19].drop 0).take (Tryz.prog.cellsOf 3)) = some (ys18[0]'(by omega)) := (hf18 0 _ rfl).trans (List.getElem?_eq_getElem (by omega))
    simp only [ki, List.drop_zero, List.take_succ_cons, List.take_zero] at q18
    obtain ⟨a18, e18, -, -⟩ := DataW.trod_int Tryz.underlying3 q18
    have q19 : DataW.trod enc Tryz.prog w base spare held n18s 39 (([c18, c19].drop 1).take (Tryz.prog.cellsOf 39)) = some (ys18[1]'(by omega)) := (hf18 1 _ rfl).trans (List.getElem?_eq_getElem (by omega))
    simp only [ku, List.drop_zero, List.drop_succ_cons, List.take_succ_cons, List.take_zero] at q19
    obtain ⟨n19, e19, -, wf19⟩ := DataW.trod_int Tryz.underlying39 q19
    obtain ⟨a19, rfl, hu19⟩ := u64_of wf19
    obtain ⟨ys20, n20s, _, _, _, hyl20, hf20⟩ := DataW.trod_struct Tryz.underlying47 g16
    have hyl20 : ys20.length = 2 := hyl20
    have q20 : DataW.trod enc Tryz.prog w base spare held n20s 3 (([c20, c21].drop 0).take (Tryz.prog.cellsOf 3)) = some (ys20[0]'(by omega)) := (hf20 0 _ rfl).trans (List.getElem?_eq_getElem (by omega))
    simp only [ki, List.drop_zero, List.take_succ_cons, List.take_zero] at q20
    obtain ⟨a20, e20, -, -⟩ := DataW.trod_int Tryz.underlying3 q20
    have q21 : DataW.trod enc Tryz.prog w base spare held n20s 3 (([c20, c21].drop 1).take (Tryz.prog.cellsOf 3)) = some (ys20[1]'(by omega)) := (hf20 1 _ rfl).trans (List.getElem?_eq_getElem (by omega))
    simp only [ki, List.drop_zero, List.drop_succ_cons, List.take_succ_cons, List.take_zero] at q21
    obtain ⟨a21, e21, -, -⟩ := DataW.trod_int Tryz.underlying3 q21
    obtain ⟨a22, e22, -, -⟩ := DataW.trod_int Tryz.underlying3 g17
    obtain ⟨a23, e23, -, -⟩ := DataW.trod_int Tryz.underlying3 g18
    simp only [List.cons.injEq, and_true] at e0 e1 e2 e3 e4 e5 e6 e7 e8 e9 e10 e11 e12 e13 e14 e15 e16 e17 e18 e19 e20 e21 e22 e23
    subst e0 e1 e2 e3 e4 e5 e6 e7 e8 e9 e10 e11 e12 e13 e14 e15 e16 e17 e18 e19 e20 e21 e22 e23
    refine ⟨⟨a0, a1, a2, a3, a4, a5, a6, a7, a8, a9.data.toList, a10, a11, a12, a13, a14, a15, a16, a17, a18, a19, a20, a21, a22, a23⟩, rfl, ⟨hu3, hu17, hu19⟩, ?_⟩
    rw [hx.1]
    have hw : (DataW.agg (ys.map (·.1)) : DataW H).weights Tryz.prog 49 = DataW.weightsEach Tryz.prog (Tryz.prog.fieldsOf 49 |>.toList.map (·.type)) (ys.map (·.1)) := by
      simp only [DataW.weights, Tryz.underlying49, Program.fieldsOf]
    rw [hw]
    refine DataW.weights_mem_each (j := 9) (t := 9) (d := .lit (.string a9.data.toList)) ?_ ?_ _ ?_
    · simp only [Program.fieldsOf, Tryz.underlying49]
      rfl
    · rw [List.getElem?_map, List.getElem?_eq_getElem (by omega), hy9]
      rfl
    · simp [DataW.weights]
set_option maxRecDepth 100000 in
theorem req_fits {q : Req} (hok : q.ok) {ts : List TypeId} {ds : List (DataW H)} {j : Nat} {d : DataW H} (hd : ds[j]? = some d) (ht : ts[j]? = some 49) (hm : q.txt.length ∈ d.weights Tryz.prog 49) (h : (DataW.weightsEach Tryz.prog ts ds).all (· ≤ reachBytes) = true) : q.fits := by
  have h1 := List.all_eq_true.1 h _ (DataW.weights_mem_each ht hd _ hm)
  have h2 : q.txt.length ≤ reachBytes := by simpa using h1
  have h3 : reachBytes + 4096 = 140737488355328 := by decide
  exact ⟨hok, by omega⟩
end
end Go.Proofs.YtmgpfkoomlgcoaaGreat
