/-
  A row of asks opened: each ask's request with the bounds of its numbers and its text's size. Conditions: none.
-/
import Derived.Test.YtmgpfkoomlgcoaaGreatOpenIb
import Derived.Test.YtmgpfkoomlgcoaaGreatAsks
namespace Go.Proofs.YtmgpfkoomlgcoaaGreat
open Go.RowKit Go.ChangeShapes Go.WideShapes Go.Deep

theorem weights_all {H : Type} {P : Program} {e : TypeId} : ∀ {ds : List (DataW H)} {d : DataW H}, d ∈ ds → ∀ n ∈ d.weights P e, n ∈ DataW.weightsAll P e ds
  | d0 :: ds, d, hd, n, hn => by
    simp only [DataW.weightsAll, List.mem_append]
    rcases List.mem_cons.1 hd with rfl | h
    · exact .inl hn
    · exact .inr (weights_all h n hn)
  | [], _, hd, _, _ => by simp at hd

section
variable {H : Type} {enc : TypeId × Value → H} {P : Program} {w : World} {base : Nat} {spare : Nat → Bool} {held : Bool}
/-- As open_sl, and each element's datum is one of the whole's. -/
theorem open_slw {α : Type} [Inhabited α] {enc' : α → List Value} {k : Nat} (hkp : 0 < k) (hk : ∀ a, (enc' a).length = k) (Pa : α → DataW H → Prop) {t e : TypeId} {r : Reach} {b0 : Nat} {v : Value} {d : DataW H} {ps : List MemPlace} (ht : P.underlying t = some (.slice e)) (hC : P.cellsOf e = k)
    (hel : ∀ n cs' x, DataW.trod enc P w base spare held n e cs' = some x → cs'.length = k → ∃ a, cs' = enc' a ∧ Pa a x.1)
    (hv : Value.okWide P w r b0 t v) (h : DataW.Trod enc P w base spare held t v d ps) : ∃ l : List α, Sl enc' w w.heap.size v l ∧ ∀ a ∈ l, ∃ x : DataW H, Pa a x ∧ ∀ n ∈ x.weights P e, n ∈ d.weights P t := by
  obtain ⟨a0, len0, cap0, rfl⟩ := okWide_slice ht hv
  obtain ⟨fuel, hf⟩ := h
  rcases open_slice ht hf with ⟨hcs, _⟩ | ⟨a, len, cap, m, n, D, Pl, hcs, hb, hl, hm, hmm, hd, hi⟩
  · simp only [Value.cells, List.cons.injEq, Value.slice.injEq, and_true] at hcs
    obtain ⟨rfl, rfl, rfl⟩ := hcs
    exact ⟨[], Sl.nil, by simp⟩
  · simp only [Value.cells, List.cons.injEq, Value.slice.injEq, and_true] at hcs
    obtain ⟨rfl, rfl, rfl⟩ := hcs
    have hlm : len0 ≤ m := by rw [hmm]; split <;> omega
    obtain ⟨f, hf⟩ := choose_lt (n := len0) (p := fun i x => w.cells? base (a.add (i * k)) k = some (enc' x) ∧ Pa x (D i)) (fun i hil => by
      obtain ⟨cs', hc, htr⟩ := hi i (by omega)
      rw [hC] at hc
      obtain ⟨_, hcl, _⟩ := World.cells?_some hc
      obtain ⟨x, rfl, hx⟩ := hel _ _ _ htr hcl
      exact ⟨x, hc, hx⟩)
    refine ⟨(List.range len0).map f, ⟨some a, cap0, by simp, by simpa using hl, hm, fun hp => ?_⟩, fun x hx => ?_⟩
    · have hlen : 0 < len0 := by simpa using hp
      have h0 := (World.cells?_some (hf 0 hlen).1).2.2 0 hkp
      have hsome : ∃ u, w.cell? a = some u := by
        have e : (a.add (0 * k)).add 0 = a := by simp [Addr.add]
        rw [e] at h0
        exact ⟨_, h0.trans (List.getElem?_eq_getElem (by rw [hk]; exact hkp))⟩
      obtain ⟨u, hu⟩ := hsome
      have hform := fun j => (add_form (j := j) hu).1
      have hsp := (add_form (j := 0) hu).2
      obtain ⟨b, off, sp⟩ := a
      simp only at hsp
      subst hsp
      refine ⟨b, off, rfl, World.block_lt_of_cell? w ⟨b, off, none⟩ hu, lay_join hk _ _ fun i hi => ?_⟩
      simp only [List.length_map, List.length_range] at hi
      simp only [List.getElem_map, List.getElem_range]
      intro j u' hu'
      have hjk : j < k := by
        have := (List.getElem?_eq_some_iff.1 hu').1
        rwa [hk] at this
      have hc := (World.cells?_some (hf i hi).1).2.2 j hjk
      rw [hu', Go.Deep.add_add, hform] at hc
      simpa [Nat.add_assoc] using hc
    · simp only [List.mem_map, List.mem_range] at hx
      obtain ⟨i, hi, rfl⟩ := hx
      refine ⟨D i, (hf i hi).2, fun n hn => ?_⟩
      have hd1 : d = .slice ((List.range len0).map D) ((List.range (m - len0)).map fun j => D (len0 + j)) := congrArg Prod.fst hd
      rw [hd1]
      simp only [DataW.weights, ht, List.mem_cons, List.mem_append]
      exact .inr (.inl (weights_all (List.mem_map.2 ⟨i, List.mem_range.2 hi, rfl⟩) n hn))
end

section
variable {H : Type} {enc : TypeId × Value → H} {w : World} {base : Nat} {spare : Nat → Bool} {held : Bool}
set_option maxRecDepth 100000 in
set_option maxHeartbeats 1000000 in
theorem open_req_cells {fuel : Nat} {cl : List Value} {x : DataW H × List MemPlace} (hlen : cl.length = 24) (hf : DataW.trod enc Tryz.prog w base spare held fuel 49 cl = some x) :
    ∃ q : Req, cl = (rqC q).toList ∧ q.ok ∧ q.ib ∧ q.txt.length ∈ x.1.weights Tryz.prog 49 := by
  have ki : Tryz.prog.cellsOf 3 = 1 := by kernel_rfl
  have ku : Tryz.prog.cellsOf 39 = 1 := by kernel_rfl
  have ks : Tryz.prog.cellsOf 9 = 1 := by kernel_rfl
  have kR : Tryz.prog.cellsOf 43 = 4 := by kernel_rfl
  have kP : Tryz.prog.cellsOf 45 = 2 := by kernel_rfl
  have kA : Tryz.prog.cellsOf 47 = 2 := by kernel_rfl
  match cl, hlen with
  | [c0, c1, c2, c3, c4, c5, c6, c7, c8, c9, c10, c11, c12, c13, c14, c15, c16, c17, c18, c19, c20, c21, c22, c23], _ =>
    obtain ⟨ys, n, _, hx, _, hyl, hf⟩ := DataW.trod_struct Tryz.underlying49 hf
    have hyl : ys.length = 19 := hyl
    have g0 : DataW.trod enc Tryz.prog w base spare held n 3 (([c0, c1, c2, c3, c4, c5, c6, c7, c8, c9, c10, c11, c12, c13, c14, c15, c16, c17, c18, c19, c20, c21, c22, c23].drop 0).take (Tryz.prog.cellsOf 3)) = some (ys[0]'(by omega)) := (hf 0 _ rfl).trans (List.getElem?_eq_getElem (by omega))
    have g1 : DataW.trod enc Tryz.prog w base spare held n 3 (([c0, c1, c2, c3, c4, c5, c6, c7, c8, c9, c10, c11, c12, c13, c14, c15, c16, c17, c18, c19, c20, c21, c22, c23].drop 1).take (Tryz.prog.cellsOf 3)) = some (ys[1]'(by omega)) := (hf 1 _ rfl).trans (List.getElem?_eq_getElem (by omega))
    have g2 : DataW.trod enc Tryz.prog w base spare held n 3 (([c0, c1, c2, c3, c4, c5, c6, c7, c8, c9, c10, c11, c12, c13, c14, c15, c16, c17, c18, c19, c20, c21, c22, c23].drop 2).take (Tryz.prog.cellsOf 3)) = some (ys[2]'(by omega)) := (hf 2 _ rfl).trans (List.getElem?_eq_getElem (by omega))
    have g3 : DataW.trod enc Tryz.prog w base spare held n 39 (([c0, c1, c2, c3, c4, c5, c6, c7, c8, c9, c10, c11, c12, c13, c14, c15, c16, c17, c18, c19, c20, c21, c22, c23].drop 3).take (Tryz.prog.cellsOf 39)) = some (ys[3]'(by omega)) := (hf 3 _ rfl).trans (List.getElem?_eq_getElem (by omega))
    have g4 : DataW.trod enc Tryz.prog w base spare held n 3 (([c0, c1, c2, c3, c4, c5, c6, c7, c8, c9, c10, c11, c12, c13, c14, c15, c16, c17, c18, c19, c20, c21, c22, c23].drop 4).take (Tryz.prog.cellsOf 3)) = some (ys[4]'(by omega)) := (hf 4 _ rfl).trans (List.getElem?_eq_getElem (by omega))
    have g5 : DataW.trod enc Tryz.prog w base spare held n 3 (([c0, c1, c2, c3, c4, c5, c6, c7, c8, c9, c10, c11, c12, c13, c14, c15, c16, c17, c18, c19, c20, c21, c22, c23].drop 5).take (Tryz.prog.cellsOf 3)) = some (ys[5]'(by omega)) := (hf 5 _ rfl).trans (List.getElem?_eq_getElem (by omega))
    have g6 : DataW.trod enc Tryz.prog w base spare held n 3 (([c0, c1, c2, c3, c4, c5, c6, c7, c8, c9, c10, c11, c12, c13, c14, c15, c16, c17, c18, c19, c20, c21, c22, c23].drop 6).take (Tryz.prog.cellsOf 3)) = some (ys[6]'(by omega)) := (hf 6 _ rfl).trans (List.getElem?_eq_getElem (by omega))
    have g7 : DataW.trod enc Tryz.prog w base spare held n 3 (([c0, c1, c2, c3, c4, c5, c6, c7, c8, c9, c10, c11, c12, c13, c14, c15, c16, c17, c18, c19, c20, c21, c22, c23].drop 7).take (Tryz.prog.cellsOf 3)) = some (ys[7]'(by omega)) := (hf 7 _ rfl).trans (List.getElem?_eq_getElem (by omega))
    have g8 : DataW.trod enc Tryz.prog w base spare held n 3 (([c0, c1, c2, c3, c4, c5, c6, c7, c8, c9, c10, c11, c12, c13, c14, c15, c16, c17, c18, c19, c20, c21, c22, c23].drop 8).take (Tryz.prog.cellsOf 3)) = some (ys[8]'(by omega)) := (hf 8 _ rfl).trans (List.getElem?_eq_getElem (by omega))
    have g9 : DataW.trod enc Tryz.prog w base spare held n 9 (([c0, c1, c2, c3, c4, c5, c6, c7, c8, c9, c10, c11, c12, c13, c14, c15, c16, c17, c18, c19, c20, c21, c22, c23].drop 9).take (Tryz.prog.cellsOf 9)) = some (ys[9]'(by omega)) := (hf 9 _ rfl).trans (List.getElem?_eq_getElem (by omega))
    have g10 : DataW.trod enc Tryz.prog w base spare held n 3 (([c0, c1, c2, c3, c4, c5, c6, c7, c8, c9, c10, c11, c12, c13, c14, c15, c16, c17, c18, c19, c20, c21, c22, c23].drop 10).take (Tryz.prog.cellsOf 3)) = some (ys[10]'(by omega)) := (hf 10 _ rfl).trans (List.getElem?_eq_getElem (by omega))
    have g11 : DataW.trod enc Tryz.prog w base spare held n 3 (([c0, c1, c2, c3, c4, c5, c6, c7, c8, c9, c10, c11, c12, c13, c14, c15, c16, c17, c18, c19, c20, c21, c22, c23].drop 11).take (Tryz.prog.cellsOf 3)) = some (ys[11]'(by omega)) := (hf 11 _ rfl).trans (List.getElem?_eq_getElem (by omega))
    have g12 : DataW.trod enc Tryz.prog w base spare held n 43 (([c0, c1, c2, c3, c4, c5, c6, c7, c8, c9, c10, c11, c12, c13, c14, c15, c16, c17, c18, c19, c20, c21, c22, c23].drop 12).take (Tryz.prog.cellsOf 43)) = some (ys[12]'(by omega)) := (hf 12 _ rfl).trans (List.getElem?_eq_getElem (by omega))
    have g13 : DataW.trod enc Tryz.prog w base spare held n 3 (([c0, c1, c2, c3, c4, c5, c6, c7, c8, c9, c10, c11, c12, c13, c14, c15, c16, c17, c18, c19, c20, c21, c22, c23].drop 16).take (Tryz.prog.cellsOf 3)) = some (ys[13]'(by omega)) := (hf 13 _ rfl).trans (List.getElem?_eq_getElem (by omega))
    have g14 : DataW.trod enc Tryz.prog w base spare held n 39 (([c0, c1, c2, c3, c4, c5, c6, c7, c8, c9, c10, c11, c12, c13, c14, c15, c16, c17, c18, c19, c20, c21, c22, c23].drop 17).take (Tryz.prog.cellsOf 39)) = some (ys[14]'(by omega)) := (hf 14 _ rfl).trans (List.getElem?_eq_getElem (by omega))
    have g15 : DataW.trod enc Tryz.prog w base spare held n 45 (([c0, c1, c2, c3, c4, c5, c6, c7, c8, c9, c10, c11, c12, c13, c14, c15, c16, c17, c18, c19, c20, c21, c22, c23].drop 18).take (Tryz.prog.cellsOf 45)) = some (ys[15]'(by omega)) := (hf 15 _ rfl).trans (List.getElem?_eq_getElem (by omega))
    have g16 : DataW.trod enc Tryz.prog w base spare held n 47 (([c0, c1, c2, c3, c4, c5, c6, c7, c8, c9, c10, c11, c12, c13, c14, c15, c16, c17, c18, c19, c20, c21, c22, c23].drop 20).take (Tryz.prog.cellsOf 47)) = some (ys[16]'(by omega)) := (hf 16 _ rfl).trans (List.getElem?_eq_getElem (by omega))
    have g17 : DataW.trod enc Tryz.prog w base spare held n 3 (([c0, c1, c2, c3, c4, c5, c6, c7, c8, c9, c10, c11, c12, c13, c14, c15, c16, c17, c18, c19, c20, c21, c22, c23].drop 22).take (Tryz.prog.cellsOf 3)) = some (ys[17]'(by omega)) := (hf 17 _ rfl).trans (List.getElem?_eq_getElem (by omega))
    have g18 : DataW.trod enc Tryz.prog w base spare held n 3 (([c0, c1, c2, c3, c4, c5, c6, c7, c8, c9, c10, c11, c12, c13, c14, c15, c16, c17, c18, c19, c20, c21, c22, c23].drop 23).take (Tryz.prog.cellsOf 3)) = some (ys[18]'(by omega)) := (hf 18 _ rfl).trans (List.getElem?_eq_getElem (by omega))
    simp only [ki, ku, ks, kR, kP, kA, List.drop_zero, List.drop_succ_cons, List.take_succ_cons, List.take_zero] at g0 g1 g2 g3 g4 g5 g6 g7 g8 g9 g10 g11 g12 g13 g14 g15 g16 g17 g18
    obtain ⟨a0, e0, -, wi0⟩ := DataW.trod_int Tryz.underlying3 g0
    obtain ⟨a1, e1, -, wi1⟩ := DataW.trod_int Tryz.underlying3 g1
    obtain ⟨a2, e2, -, wi2⟩ := DataW.trod_int Tryz.underlying3 g2
    obtain ⟨n3, e3, -, wf3⟩ := DataW.trod_int Tryz.underlying39 g3
    obtain ⟨a3, rfl, hu3⟩ := u64_of wf3
    obtain ⟨a4, e4, -, wi4⟩ := DataW.trod_int Tryz.underlying3 g4
    obtain ⟨a5, e5, -, wi5⟩ := DataW.trod_int Tryz.underlying3 g5
    obtain ⟨a6, e6, -, wi6⟩ := DataW.trod_int Tryz.underlying3 g6
    obtain ⟨a7, e7, -, wi7⟩ := DataW.trod_int Tryz.underlying3 g7
    obtain ⟨a8, e8, -, wi8⟩ := DataW.trod_int Tryz.underlying3 g8
    obtain ⟨a9, e9, hy9, -⟩ := DataW.trod_string Tryz.underlying9 g9
    obtain ⟨a10, e10, -, wi10⟩ := DataW.trod_int Tryz.underlying3 g10
    obtain ⟨a11, e11, -, wi11⟩ := DataW.trod_int Tryz.underlying3 g11
    obtain ⟨ys12, n12s, _, _, _, hyl12, hf12⟩ := DataW.trod_struct Tryz.underlying43 g12
    have hyl12 : ys12.length = 4 := hyl12
    have q12 : DataW.trod enc Tryz.prog w base spare held n12s 3 (([c12, c13, c14, c15].drop 0).take (Tryz.prog.cellsOf 3)) = some (ys12[0]'(by omega)) := (hf12 0 _ rfl).trans (List.getElem?_eq_getElem (by omega))
    simp only [ki, List.drop_zero, List.take_succ_cons, List.take_zero] at q12
    obtain ⟨a12, e12, -, wi12⟩ := DataW.trod_int Tryz.underlying3 q12
    have q13 : DataW.trod enc Tryz.prog w base spare held n12s 3 (([c12, c13, c14, c15].drop 1).take (Tryz.prog.cellsOf 3)) = some (ys12[1]'(by omega)) := (hf12 1 _ rfl).trans (List.getElem?_eq_getElem (by omega))
    simp only [ki, List.drop_zero, List.drop_succ_cons, List.take_succ_cons, List.take_zero] at q13
    obtain ⟨a13, e13, -, wi13⟩ := DataW.trod_int Tryz.underlying3 q13
    have q14 : DataW.trod enc Tryz.prog w base spare held n12s 3 (([c12, c13, c14, c15].drop 2).take (Tryz.prog.cellsOf 3)) = some (ys12[2]'(by omega)) := (hf12 2 _ rfl).trans (List.getElem?_eq_getElem (by omega))
    simp only [ki, List.drop_zero, List.drop_succ_cons, List.take_succ_cons, List.take_zero] at q14
    obtain ⟨a14, e14, -, wi14⟩ := DataW.trod_int Tryz.underlying3 q14
    have q15 : DataW.trod enc Tryz.prog w base spare held n12s 3 (([c12, c13, c14, c15].drop 3).take (Tryz.prog.cellsOf 3)) = some (ys12[3]'(by omega)) := (hf12 3 _ rfl).trans (List.getElem?_eq_getElem (by omega))
    simp only [ki, List.drop_zero, List.drop_succ_cons, List.take_succ_cons, List.take_zero] at q15
    obtain ⟨a15, e15, -, wi15⟩ := DataW.trod_int Tryz.underlying3 q15
    obtain ⟨a16, e16, -, wi16⟩ := DataW.trod_int Tryz.underlying3 g13
    obtain ⟨n17, e17, -, wf17⟩ := DataW.trod_int Tryz.underlying39 g14
    obtain ⟨a17, rfl, hu17⟩ := u64_of wf17
    obtain ⟨ys18, n18s, _, _, _, hyl18, hf18⟩ := DataW.trod_struct Tryz.underlying45 g15
    have hyl18 : ys18.length = 2 := hyl18
    have q18 : DataW.trod enc Tryz.prog w base spare held n18s 3 (([c18, c19].drop 0).take (Tryz.prog.cellsOf 3)) = some (ys18[0]'(by omega)) := (hf18 0 _ rfl).trans (List.getElem?_eq_getElem (by omega))
    simp only [ki, List.drop_zero, List.take_succ_cons, List.take_zero] at q18
    obtain ⟨a18, e18, -, wi18⟩ := DataW.trod_int Tryz.underlying3 q18
    have q19 : DataW.trod enc Tryz.prog w base spare held n18s 39 (([c18, c19].drop 1).take (Tryz.prog.cellsOf 39)) = some (ys18[1]'(by omega)) := (hf18 1 _ rfl).trans (List.getElem?_eq_getElem (by omega))
    simp only [ku, List.drop_zero, List.drop_succ_cons, List.take_succ_cons, List.take_zero] at q19
    obtain ⟨n19, e19, -, wf19⟩ := DataW.trod_int Tryz.underlying39 q19
    obtain ⟨a19, rfl, hu19⟩ := u64_of wf19
    obtain ⟨ys20, n20s, _, _, _, hyl20, hf20⟩ := DataW.trod_struct Tryz.underlying47 g16
    have hyl20 : ys20.length = 2 := hyl20
    have q20 : DataW.trod enc Tryz.prog w base spare held n20s 3 (([c20, c21].drop 0).take (Tryz.prog.cellsOf 3)) = some (ys20[0]'(by omega)) := (hf20 0 _ rfl).trans (List.getElem?_eq_getElem (by omega))
    simp only [ki, List.drop_zero, List.take_succ_cons, List.take_zero] at q20
    obtain ⟨a20, e20, -, wi20⟩ := DataW.trod_int Tryz.underlying3 q20
    have q21 : DataW.trod enc Tryz.prog w base spare held n20s 3 (([c20, c21].drop 1).take (Tryz.prog.cellsOf 3)) = some (ys20[1]'(by omega)) := (hf20 1 _ rfl).trans (List.getElem?_eq_getElem (by omega))
    simp only [ki, List.drop_zero, List.drop_succ_cons, List.take_succ_cons, List.take_zero] at q21
    obtain ⟨a21, e21, -, wi21⟩ := DataW.trod_int Tryz.underlying3 q21
    obtain ⟨a22, e22, -, wi22⟩ := DataW.trod_int Tryz.underlying3 g17
    obtain ⟨a23, e23, -, wi23⟩ := DataW.trod_int Tryz.underlying3 g18
    simp only [List.cons.injEq, and_true] at e0 e1 e2 e3 e4 e5 e6 e7 e8 e9 e10 e11 e12 e13 e14 e15 e16 e17 e18 e19 e20 e21 e22 e23
    subst e0 e1 e2 e3 e4 e5 e6 e7 e8 e9 e10 e11 e12 e13 e14 e15 e16 e17 e18 e19 e20 e21 e22 e23
    refine ⟨⟨a0, a1, a2, a3, a4, a5, a6, a7, a8, a9.data.toList, a10, a11, a12, a13, a14, a15, a16, a17, a18, a19, a20, a21, a22, a23⟩, rfl, ⟨hu3, hu17, hu19⟩, ?_, ?_⟩
    · unfold Req.ib
      simp only [List.mem_cons, List.not_mem_nil, or_false, forall_eq_or_imp, forall_eq]
      exact ⟨i64_of wi0, i64_of wi1, i64_of wi2, i64_of wi4, i64_of wi5, i64_of wi6, i64_of wi7, i64_of wi8, i64_of wi10, i64_of wi11, i64_of wi12, i64_of wi13, i64_of wi14, i64_of wi15, i64_of wi16, i64_of wi18, i64_of wi20, i64_of wi21, i64_of wi22, i64_of wi23⟩
    rw [hx]
    have hw : (DataW.agg (ys.map (·.1)) : DataW H).weights Tryz.prog 49 = DataW.weightsEach Tryz.prog (Tryz.prog.fieldsOf 49 |>.toList.map (·.type)) (ys.map (·.1)) := by
      simp only [DataW.weights, Tryz.underlying49, Program.fieldsOf]
    rw [hw]
    refine DataW.weights_mem_each (j := 9) (t := 9) (d := .lit (.string a9.data.toList)) ?_ ?_ _ ?_
    · simp only [Program.fieldsOf, Tryz.underlying49]
      rfl
    · rw [List.getElem?_map, List.getElem?_eq_getElem (by omega), hy9]
      rfl
    · simp [DataW.weights]

set_option maxRecDepth 100000 in
theorem open_ask_cells {fuel : Nat} {cl : List Value} {x : DataW H × List MemPlace} (hlen : cl.length = 26) (hf : DataW.trod enc Tryz.prog w base spare held fuel 87 cl = some x) :
    ∃ a : Akt, cl = akC a ∧ a.q.ok ∧ a.q.ib ∧ a.q.txt.length ∈ x.1.weights Tryz.prog 87 := by
  have ki : Tryz.prog.cellsOf 3 = 1 := by kernel_rfl
  have ku : Tryz.prog.cellsOf 39 = 1 := by kernel_rfl
  have kq : Tryz.prog.cellsOf 49 = 24 := by kernel_rfl
  obtain ⟨ys, n, _, hx, _, hyl, hf⟩ := DataW.trod_struct Tryz.underlying87 hf
  have hyl : ys.length = 3 := hyl
  have g0 : DataW.trod enc Tryz.prog w base spare held n 49 ((cl.drop 0).take (Tryz.prog.cellsOf 49)) = some (ys[0]'(by omega)) := (hf 0 _ rfl).trans (List.getElem?_eq_getElem (by omega))
  have g1 : DataW.trod enc Tryz.prog w base spare held n 39 ((cl.drop 24).take (Tryz.prog.cellsOf 39)) = some (ys[1]'(by omega)) := (hf 1 _ rfl).trans (List.getElem?_eq_getElem (by omega))
  have g2 : DataW.trod enc Tryz.prog w base spare held n 3 ((cl.drop 25).take (Tryz.prog.cellsOf 3)) = some (ys[2]'(by omega)) := (hf 2 _ rfl).trans (List.getElem?_eq_getElem (by omega))
  rw [kq, List.drop_zero] at g0
  rw [ku] at g1
  rw [ki] at g2
  obtain ⟨q, e0, h1, h2, h3⟩ := open_req_cells (by simp; omega) g0
  obtain ⟨n1, e1, -, wf1⟩ := DataW.trod_int Tryz.underlying39 g1
  obtain ⟨d, rfl, hu⟩ := u64_of wf1
  obtain ⟨t, e2, -, -⟩ := DataW.trod_int Tryz.underlying3 g2
  refine ⟨⟨q, d, t⟩, ?_, h1, h2, ?_⟩
  · have s1 : cl = cl.take 24 ++ ((cl.drop 24).take 1 ++ (cl.drop 25).take 1) := by
      have a1 := List.take_append_drop 24 cl
      have a2 := List.take_append_drop 1 (cl.drop 24)
      have a3 : (cl.drop 25).take 1 = cl.drop 25 := List.take_of_length_le (by simp; omega)
      rw [List.drop_drop] at a2
      rw [a3, a2, a1]
    rw [s1, e0, e1, e2]
    rfl
  · have hx1 : x.1 = .agg (ys.map (·.1)) := by rw [hx]
    rw [hx1]
    have hw : (DataW.agg (ys.map (·.1)) : DataW H).weights Tryz.prog 87 = DataW.weightsEach Tryz.prog (Tryz.prog.fieldsOf 87 |>.toList.map (·.type)) (ys.map (·.1)) := by
      simp only [DataW.weights, Tryz.underlying87, Program.fieldsOf]
    rw [hw]
    refine DataW.weights_mem_each (j := 0) (t := 49) (d := (ys[0]'(by omega)).1) ?_ ?_ _ h3
    · simp only [Program.fieldsOf, Tryz.underlying87]
      rfl
    · rw [List.getElem?_map, List.getElem?_eq_getElem (by omega)]
      rfl

instance : Inhabited Akt := ⟨⟨zeroR 0, 0, 0⟩⟩
set_option maxRecDepth 100000 in
theorem open_asks {r : Reach} {b0 : Nat} {v : Value} {d : DataW H} {ps : List MemPlace} (hv : Value.okWide Tryz.prog w r b0 83 v) (h : DataW.Trod enc Tryz.prog w base spare held 83 v d ps) (hw : ∀ n ∈ d.weights Tryz.prog 83, n ≤ reachBytes) :
    ∃ l : List Akt, Sl akC w w.heap.size v l ∧ ∀ a ∈ l, a.q.fits ∧ a.q.ib := by
  obtain ⟨l, hl, hp⟩ := open_slw (enc' := akC) (k := 26) (by omega) akC_len (fun a x => a.q.ok ∧ a.q.ib ∧ a.q.txt.length ∈ x.weights Tryz.prog 87) Tryz.underlying83 (by kernel_rfl)
    (fun n cs' x hx hl => by
      obtain ⟨a, h1, h2, h3, h4⟩ := open_ask_cells hl hx
      exact ⟨a, h1, h2, h3, h4⟩) hv h
  refine ⟨l, hl, fun a ha => ?_⟩
  obtain ⟨x, ⟨h1, h2, h3⟩, h4⟩ := hp a ha
  have h5 := hw _ (h4 _ h3)
  have h6 : reachBytes + 4096 = 140737488355328 := by decide
  exact ⟨⟨h1, by omega⟩, h2⟩
end
end Go.Proofs.YtmgpfkoomlgcoaaGreat
