/-
  A job opened: its secrets; its items, each with its bytes, the bounds of its request's numbers and its text's size. Conditions: none. A law over the laid tables: its step, and a world that holds the tables. Conditions: none.
-/
import Derived.Test.YtldjgpnbkbmgoaaGreatDoorPP7
import Derived.Test.YtldjgpnbkbmgoaaGreatDoorPP6
import Derived.Test.YtldjgpnbkbmgoaaGreatDoorPP1
import Derived.Test.YtldjgpnbkbmgoaaGreatDoorCards
import Derived.Test.YtldjgpnbkbmgoaaGreatDoorTie
import Derived.WalkKit
import Derived.ProofKit
import Derived.OpenShut
import Derived.Deep.DeepHandedRow
import Derived.Lib.LaidTab
set_option linter.unusedSimpArgs false
set_option linter.unusedVariables false
set_option maxRecDepth 100000
set_option maxHeartbeats 8000000
namespace Go.Proofs.YtldjgpnbkbmgoaaGreatDoor
open Go.RowKit Go.ChangeShapes Go.WideShapes Go.Deep
theorem weights_all {H : Type} {P : Program} {e : TypeId} : ∀ {ds : List (DataW H)} {d : DataW H}, d ∈ ds → ∀ n ∈ d.weights P e, n ∈ DataW.weightsAll P e ds
  | d0 :: ds, d, hd, n, hn => by
    simp only [DataW.weightsAll, List.mem_append]
    rcases List.mem_cons.1 hd with rfl | h
    · exact .inl hn
    · exact .inr (weights_all h n hn)
  | [], _, hd, _, _ => by simp at hd
section
variable {H : Type} {enc : TypeId × Value → H} {P : Program} {w : World} {base : Nat} {spare : Nat → Bool} {held : Bool}
theorem open_slc {α : Type} [Inhabited α] {enc' : α → List Value} {k : Nat} (hkp : 0 < k) (hk : ∀ a, (enc' a).length = k) (Pa : α → DataW H → Prop) {t e : TypeId} (ht : P.underlying t = some (.slice e)) (hC : P.cellsOf e = k)
    (hel : ∀ n cs' x, DataW.trod enc P w base spare held n e cs' = some x → cs'.length = k → ∃ a, cs' = enc' a ∧ Pa a x.1)
    {fuel : Nat} {c : Value} {X : DataW H × List MemPlace} (hf : DataW.trod enc P w base spare held fuel t [c] = some X) : ∃ (l : List α) (A : Option Addr) (cap : Nat), c = .slice A l.length cap ∧ Sl enc' w w.heap.size (.slice A l.length cap) l ∧ ∀ a ∈ l, ∃ x : DataW H, Pa a x ∧ ∀ n ∈ x.weights P e, n ∈ X.1.weights P t := by
  rcases open_slice ht hf with ⟨hcs, _⟩ | ⟨a, len, cap, m, n, D, Pl, hcs, hb, hl, hm, hmm, hd, hi⟩
  · simp only [List.cons.injEq, and_true] at hcs
    subst hcs
    exact ⟨[], none, 0, rfl, Sl.nil, by simp⟩
  · simp only [List.cons.injEq, and_true] at hcs
    subst hcs
    have hlm : len ≤ m := by rw [hmm]; split <;> omega
    obtain ⟨f, hf⟩ := choose_lt (n := len) (p := fun i x => w.cells? base (a.add (i * k)) k = some (enc' x) ∧ Pa x (D i)) (fun i hil => by
      obtain ⟨cs', hc, htr⟩ := hi i (by omega)
      rw [hC] at hc
      obtain ⟨_, hcl, _⟩ := World.cells?_some hc
      obtain ⟨x, rfl, hx⟩ := hel _ _ _ htr hcl
      exact ⟨x, hc, hx⟩)
    refine ⟨(List.range len).map f, some a, cap, by simp, ⟨some a, cap, by simp, by simpa using hl, hm, fun hp => ?_⟩, fun x hx => ?_⟩
    · have hlen : 0 < len := by simpa using hp
      have h0 := (World.cells?_some (hf 0 hlen).1).2.2 0 hkp
      have hsome : ∃ u, w.cell? a = some u := by
        have e : (a.add (0 * k)).add 0 = a := by simp [Addr.add]
        rw [e] at h0
        exact ⟨_, h0.trans (List.getElem?_eq_getElem (by rw [hk]; exact hkp))⟩
      obtain ⟨u, hu⟩ := hsome
      have hform := fun j => (add_form (j := j) hu).1
      have hsp := (add_form (j := 0) hu).2
      obtain ⟨b, off, sp⟩ := a
      simp only at hsp
      subst hsp
      refine ⟨b, off, rfl, World.block_lt_of_cell? w ⟨b, off, none⟩ hu, lay_join hk _ _ fun i hi => ?_⟩
      simp only [List.length_map, List.length_range] at hi
      simp only [List.getElem_map, List.getElem_range]
      intro j u' hu'
      have hjk : j < k := by
        have := (List.getElem?_eq_some_iff.1 hu').1
        rwa [hk] at this
      have hc := (World.cells?_some (hf i hi).1).2.2 j hjk
      rw [hu', Go.Deep.add_add, hform] at hc
      simpa [Nat.add_assoc] using hc
    · simp only [List.mem_map, List.mem_range] at hx
      obtain ⟨i, hi, rfl⟩ := hx
      refine ⟨D i, (hf i hi).2, fun n hn => ?_⟩
      have hd1 : X.1 = .slice ((List.range len).map D) ((List.range (m - len)).map fun j => D (len + j)) := congrArg Prod.fst hd
      rw [hd1]
      simp only [DataW.weights, ht, List.mem_cons, List.mem_append]
      exact .inr (.inl (weights_all (List.mem_map.2 ⟨i, List.mem_range.2 hi, rfl⟩) n hn))
end
section
variable {H : Type} {enc : TypeId × Value → H} {w : World} {base : Nat} {spare : Nat → Bool} {held : Bool}
theorem open_req_cells {fuel : Nat} {cl : List Value} {x : DataW H × List MemPlace} (hlen : cl.length = 24) (hf : DataW.trod enc Tryz.prog w base spare held fuel 60 cl = some x) :
    ∃ q : Req, cl = (rqC q).toList ∧ q.ok ∧ q.ib ∧ q.txt.length ∈ x.1.weights Tryz.prog 60 := by
  have ki : Tryz.prog.cellsOf 3 = 1 := by kernel_rfl
  have ku : Tryz.prog.cellsOf 49 = 1 := by kernel_rfl
  have ks : Tryz.prog.cellsOf 9 = 1 := by kernel_rfl
  have kR : Tryz.prog.cellsOf 54 = 4 := by kernel_rfl
  have kP : Tryz.prog.cellsOf 56 = 2 := by kernel_rfl
  have kA : Tryz.prog.cellsOf 58 = 2 := by kernel_rfl
  match cl, hlen with
  | [c0, c1, c2, c3, c4, c5, c6, c7, c8, c9, c10, c11, c12, c13, c14, c15, c16, c17, c18, c19, c20, c21, c22, c23], _ =>
    obtain ⟨ys, n, _, hx, _, hyl, hf⟩ := DataW.trod_struct Tryz.underlying60 hf
    have hyl : ys.length = 19 := hyl
    have g0 : DataW.trod enc Tryz.prog w base spare held n 3 (([c0, c1, c2, c3, c4, c5, c6, c7, c8, c9, c10, c11, c12, c13, c14, c15, c16, c17, c18, c19, c20, c21, c22, c23].drop 0).take (Tryz.prog.cellsOf 3)) = some (ys[0]'(by omega)) := (hf 0 _ rfl).trans (List.getElem?_eq_getElem (by omega))
    have g1 : DataW.trod enc Tryz.prog w base spare held n 3 (([c0, c1, c2, c3, c4, c5, c6, c7, c8, c9, c10, c11, c12, c13, c14, c15, c16, c17, c18, c19, c20, c21, c22, c23].drop 1).take (Tryz.prog.cellsOf 3)) = some (ys[1]'(by omega)) := (hf 1 _ rfl).trans (List.getElem?_eq_getElem (by omega))
    have g2 : DataW.trod enc Tryz.prog w base spare held n 3 (([c0, c1, c2, c3, c4, c5, c6, c7, c8, c9, c10, c11, c12, c13, c14, c15, c16, c17, c18, c19, c20, c21, c22, c23].drop 2).take (Tryz.prog.cellsOf 3)) = some (ys[2]'(by omega)) := (hf 2 _ rfl).trans (List.getElem?_eq_getElem (by omega))
    have g3 : DataW.trod enc Tryz.prog w base spare held n 49 (([c0, c1, c2, c3, c4, c5, c6, c7, c8, c9, c10, c11, c12, c13, c14, c15, c16, c17, c18, c19, c20, c21, c22, c23].drop 3).take (Tryz.prog.cellsOf 49)) = some (ys[3]'(by omega)) := (hf 3 _ rfl).trans (List.getElem?_eq_getElem (by omega))
    have g4 : DataW.trod enc Tryz.prog w base spare held n 3 (([c0, c1, c2, c3, c4, c5, c6, c7, c8, c9, c10, c11, c12, c13, c14, c15, c16, c17, c18, c19, c20, c21, c22, c23].drop 4).take (Tryz.prog.cellsOf 3)) = some (ys[4]'(by omega)) := (hf 4 _ rfl).trans (List.getElem?_eq_getElem (by omega))
    have g5 : DataW.trod enc Tryz.prog w base spare held n 3 (([c0, c1, c2, c3, c4, c5, c6, c7, c8, c9, c10, c11, c12, c13, c14, c15, c16, c17, c18, c19, c20, c21, c22, c23].drop 5).take (Tryz.prog.cellsOf 3)) = some (ys[5]'(by omega)) := (hf 5 _ rfl).trans (List.getElem?_eq_getElem (by omega))
    have g6 : DataW.trod enc Tryz.prog w base spare held n 3 (([c0, c1, c2, c3, c4, c5, c6, c7, c8, c9, c10, c11, c12, c13, c14, c15, c16, c17, c18, c19, c20, c21, c22, c23].drop 6).take (Tryz.prog.cellsOf 3)) = some (ys[6]'(by omega)) := (hf 6 _ rfl).trans (List.getElem?_eq_getElem (by omega))
    have g7 : DataW.trod enc Tryz.prog w base spare held n 3 (([c0, c1, c2, c3, c4, c5, c6, c7, c8, c9, c10, c11, c12, c13, c14, c15, c16, c17, c18, c19, c20, c21, c22, c23].drop 7).take (Tryz.prog.cellsOf 3)) = some (ys[7]'(by omega)) := (hf 7 _ rfl).trans (List.getElem?_eq_getElem (by omega))
    have g8 : DataW.trod enc Tryz.prog w base spare held n 3 (([c0, c1, c2, c3, c4, c5, c6, c7, c8, c9, c10, c11, c12, c13, c14, c15, c16, c17, c18, c19, c20, c21, c22, c23].drop 8).take (Tryz.prog.cellsOf 3)) = some (ys[8]'(by omega)) := (hf 8 _ rfl).trans (List.getElem?_eq_getElem (by omega))
    have g9 : DataW.trod enc Tryz.prog w base spare held n 9 (([c0, c1, c2, c3, c4, c5, c6, c7, c8, c9, c10, c11, c12, c13, c14, c15, c16, c17, c18, c19, c20, c21, c22, c23].drop 9).take (Tryz.prog.cellsOf 9)) = some (ys[9]'(by omega)) := (hf 9 _ rfl).trans (List.getElem?_eq_getElem (by omega))
    have g10 : DataW.trod enc Tryz.prog w base spare held n 3 (([c0, c1, c2, c3, c4, c5, c6, c7, c8, c9, c10, c11, c12, c13, c14, c15, c16, c17, c18, c19, c20, c21, c22, c23].drop 10).take (Tryz.prog.cellsOf 3)) = some (ys[10]'(by omega)) := (hf 10 _ rfl).trans (List.getElem?_eq_getElem (by omega))
    have g11 : DataW.trod enc Tryz.prog w base spare held n 3 (([c0, c1, c2, c3, c4, c5, c6, c7, c8, c9, c10, c11, c12, c13, c14, c15, c16, c17, c18, c19, c20, c21, c22, c23].drop 11).take (Tryz.prog.cellsOf 3)) = some (ys[11]'(by omega)) := (hf 11 _ rfl).trans (List.getElem?_eq_getElem (by omega))
    have g12 : DataW.trod enc Tryz.prog w base spare held n 54 (([c0, c1, c2, c3, c4, c5, c6, c7, c8, c9, c10, c11, c12, c13, c14, c15, c16, c17, c18, c19, c20, c21, c22, c23].drop 12).take (Tryz.prog.cellsOf 54)) = some (ys[12]'(by omega)) := (hf 12 _ rfl).trans (List.getElem?_eq_getElem (by omega))
    have g13 : DataW.trod enc Tryz.prog w base spare held n 3 (([c0, c1, c2, c3, c4, c5, c6, c7, c8, c9, c10, c11, c12, c13, c14, c15, c16, c17, c18, c19, c20, c21, c22, c23].drop 16).take (Tryz.prog.cellsOf 3)) = some (ys[13]'(by omega)) := (hf 13 _ rfl).trans (List.getElem?_eq_getElem (by omega))
    have g14 : DataW.trod enc Tryz.prog w base spare held n 49 (([c0, c1, c2, c3, c4, c5, c6, c7, c8, c9, c10, c11, c12, c13, c14, c15, c16, c17, c18, c19, c20, c21, c22, c23].drop 17).take (Tryz.prog.cellsOf 49)) = some (ys[14]'(by omega)) := (hf 14 _ rfl).trans (List.getElem?_eq_getElem (by omega))
    have g15 : DataW.trod enc Tryz.prog w base spare held n 56 (([c0, c1, c2, c3, c4, c5, c6, c7, c8, c9, c10, c11, c12, c13, c14, c15, c16, c17, c18, c19, c20, c21, c22, c23].drop 18).take (Tryz.prog.cellsOf 56)) = some (ys[15]'(by omega)) := (hf 15 _ rfl).trans (List.getElem?_eq_getElem (by omega))
    have g16 : DataW.trod enc Tryz.prog w base spare held n 58 (([c0, c1, c2, c3, c4, c5, c6, c7, c8, c9, c10, c11, c12, c13, c14, c15, c16, c17, c18, c19, c20, c21, c22, c23].drop 20).take (Tryz.prog.cellsOf 58)) = some (ys[16]'(by omega)) := (hf 16 _ rfl).trans (List.getElem?_eq_getElem (by omega))
    have g17 : DataW.trod enc Tryz.prog w base spare held n 3 (([c0, c1, c2, c3, c4, c5, c6, c7, c8, c9, c10, c11, c12, c13, c14, c15, c16, c17, c18, c19, c20, c21, c22, c23].drop 22).take (Tryz.prog.cellsOf 3)) = some (ys[17]'(by omega)) := (hf 17 _ rfl).trans (List.getElem?_eq_getElem (by omega))
    have g18 : DataW.trod enc Tryz.prog w base spare held n 3 (([c0, c1, c2, c3, c4, c5, c6, c7, c8, c9, c10, c11, c12, c13, c14, c15, c16, c17, c18, c19, c20, c21, c22, c23].drop 23).take (Tryz.prog.cellsOf 3)) = some (ys[18]'(by omega)) := (hf 18 _ rfl).trans (List.getElem?_eq_getElem (by omega))
    simp only [ki, ku, ks, kR, kP, kA, List.drop_zero, List.drop_succ_cons, List.take_succ_cons, List.take_zero] at g0 g1 g2 g3 g4 g5 g6 g7 g8 g9 g10 g11 g12 g13 g14 g15 g16 g17 g18
    obtain ⟨a0, e0, -, wi0⟩ := DataW.trod_int Tryz.underlying3 g0
    obtain ⟨a1, e1, -, wi1⟩ := DataW.trod_int Tryz.underlying3 g1
    obtain ⟨a2, e2, -, wi2⟩ := DataW.trod_int Tryz.underlying3 g2
    obtain ⟨n3, e3, -, wf3⟩ := DataW.trod_int Tryz.underlying49 g3
    obtain ⟨a3, rfl, hu3⟩ := u64_of wf3
    obtain ⟨a4, e4, -, wi4⟩ := DataW.trod_int Tryz.underlying3 g4
    obtain ⟨a5, e5, -, wi5⟩ := DataW.trod_int Tryz.underlying3 g5
    obtain ⟨a6, e6, -, wi6⟩ := DataW.trod_int Tryz.underlying3 g6
    obtain ⟨a7, e7, -, wi7⟩ := DataW.trod_int Tryz.underlying3 g7
    obtain ⟨a8, e8, -, wi8⟩ := DataW.trod_int Tryz.underlying3 g8
    obtain ⟨a9, e9, hy9, -⟩ := DataW.trod_string Tryz.underlying9 g9
    obtain ⟨a10, e10, -, wi10⟩ := DataW.trod_int Tryz.underlying3 g10
    obtain ⟨a11, e11, -, wi11⟩ := DataW.trod_int Tryz.underlying3 g11
    obtain ⟨ys12, n12s, _, _, _, hyl12, hf12⟩ := DataW.trod_struct Tryz.underlying54 g12
    have hyl12 : ys12.length = 4 := hyl12
    have q12 : DataW.trod enc Tryz.prog w base spare held n12s 3 (([c12, c13, c14, c15].drop 0).take (Tryz.prog.cellsOf 3)) = some (ys12[0]'(by omega)) := (hf12 0 _ rfl).trans (List.getElem?_eq_getElem (by omega))
    simp only [ki, List.drop_zero, List.take_succ_cons, List.take_zero] at q12
    obtain ⟨a12, e12, -, wi12⟩ := DataW.trod_int Tryz.underlying3 q12
    have q13 : DataW.trod enc Tryz.prog w base spare held n12s 3 (([c12, c13, c14, c15].drop 1).take (Tryz.prog.cellsOf 3)) = some (ys12[1]'(by omega)) := (hf12 1 _ rfl).trans (List.getElem?_eq_getElem (by omega))
    simp only [ki, List.drop_zero, List.drop_succ_cons, List.take_succ_cons, List.take_zero] at q13
    obtain ⟨a13, e13, -, wi13⟩ := DataW.trod_int Tryz.underlying3 q13
    have q14 : DataW.trod enc Tryz.prog w base spare held n12s 3 (([c12, c13, c14, c15].drop 2).take (Tryz.prog.cellsOf 3)) = some (ys12[2]'(by omega)) := (hf12 2 _ rfl).trans (List.getElem?_eq_getElem (by omega))
    simp only [ki, List.drop_zero, List.drop_succ_cons, List.take_succ_cons, List.take_zero] at q14
    obtain ⟨a14, e14, -, wi14⟩ := DataW.trod_int Tryz.underlying3 q14
    have q15 : DataW.trod enc Tryz.prog w base spare held n12s 3 (([c12, c13, c14, c15].drop 3).take (Tryz.prog.cellsOf 3)) = some (ys12[3]'(by omega)) := (hf12 3 _ rfl).trans (List.getElem?_eq_getElem (by omega))
    simp only [ki, List.drop_zero, List.drop_succ_cons, List.take_succ_cons, List.take_zero] at q15
    obtain ⟨a15, e15, -, wi15⟩ := DataW.trod_int Tryz.underlying3 q15
    obtain ⟨a16, e16, -, wi16⟩ := DataW.trod_int Tryz.underlying3 g13
    obtain ⟨n17, e17, -, wf17⟩ := DataW.trod_int Tryz.underlying49 g14
    obtain ⟨a17, rfl, hu17⟩ := u64_of wf17
    obtain ⟨ys18, n18s, _, _, _, hyl18, hf18⟩ := DataW.trod_struct Tryz.underlying56 g15
    have hyl18 : ys18.length = 2 := hyl18
    have q18 : DataW.trod enc Tryz.prog w base spare held n18s 3 (([c18, c19].drop 0).take (Tryz.prog.cellsOf 3)) = some (ys18[0]'(by omega)) := (hf18 0 _ rfl).trans (List.getElem?_eq_getElem (by omega))
    simp only [ki, List.drop_zero, List.take_succ_cons, List.take_zero] at q18
    obtain ⟨a18, e18, -, wi18⟩ := DataW.trod_int Tryz.underlying3 q18
    have q19 : DataW.trod enc Tryz.prog w base spare held n18s 49 (([c18, c19].drop 1).take (Tryz.prog.cellsOf 49)) = some (ys18[1]'(by omega)) := (hf18 1 _ rfl).trans (List.getElem?_eq_getElem (by omega))
    simp only [ku, List.drop_zero, List.drop_succ_cons, List.take_succ_cons, List.take_zero] at q19
    obtain ⟨n19, e19, -, wf19⟩ := DataW.trod_int Tryz.underlying49 q19
    obtain ⟨a19, rfl, hu19⟩ := u64_of wf19
    obtain ⟨ys20, n20s, _, _, _, hyl20, hf20⟩ := DataW.trod_struct Tryz.underlying58 g16
    have hyl20 : ys20.length = 2 := hyl20
    have q20 : DataW.trod enc Tryz.prog w base spare held n20s 3 (([c20, c21].drop 0).take (Tryz.prog.cellsOf 3)) = some (ys20[0]'(by omega)) := (hf20 0 _ rfl).trans (List.getElem?_eq_getElem (by omega))
    simp only [ki, List.drop_zero, List.take_succ_cons, List.take_zero] at q20
    obtain ⟨a20, e20, -, wi20⟩ := DataW.trod_int Tryz.underlying3 q20
    have q21 : DataW.trod enc Tryz.prog w base spare held n20s 3 (([c20, c21].drop 1).take (Tryz.prog.cellsOf 3)) = some (ys20[1]'(by omega)) := (hf20 1 _ rfl).trans (List.getElem?_eq_getElem (by omega))
    simp only [ki, List.drop_zero, List.drop_succ_cons, List.take_succ_cons, List.take_zero] at q21
    obtain ⟨a21, e21, -, wi21⟩ := DataW.trod_int Tryz.underlying3 q21
    obtain ⟨a22, e22, -, wi22⟩ := DataW.trod_int Tryz.underlying3 g17
    obtain ⟨a23, e23, -, wi23⟩ := DataW.trod_int Tryz.underlying3 g18
    simp only [List.cons.injEq, and_true] at e0 e1 e2 e3 e4 e5 e6 e7 e8 e9 e10 e11 e12 e13 e14 e15 e16 e17 e18 e19 e20 e21 e22 e23
    subst e0 e1 e2 e3 e4 e5 e6 e7 e8 e9 e10 e11 e12 e13 e14 e15 e16 e17 e18 e19 e20 e21 e22 e23
    refine ⟨⟨a0, a1, a2, a3, a4, a5, a6, a7, a8, a9.data.toList, a10, a11, a12, a13, a14, a15, a16, a17, a18, a19, a20, a21, a22, a23⟩, rfl, ⟨hu3, hu17, hu19⟩, ?_, ?_⟩
    · unfold Req.ib
      simp only [List.mem_cons, List.not_mem_nil, or_false, forall_eq_or_imp, forall_eq]
      exact ⟨i64_of wi0, i64_of wi1, i64_of wi2, i64_of wi4, i64_of wi5, i64_of wi6, i64_of wi7, i64_of wi8, i64_of wi10, i64_of wi11, i64_of wi12, i64_of wi13, i64_of wi14, i64_of wi15, i64_of wi16, i64_of wi18, i64_of wi20, i64_of wi21, i64_of wi22, i64_of wi23⟩
    rw [hx]
    have hw : (DataW.agg (ys.map (·.1)) : DataW H).weights Tryz.prog 60 = DataW.weightsEach Tryz.prog (Tryz.prog.fieldsOf 60 |>.toList.map (·.type)) (ys.map (·.1)) := by
      simp only [DataW.weights, Tryz.underlying60, Program.fieldsOf]
    rw [hw]
    refine DataW.weights_mem_each (j := 9) (t := 9) (d := .lit (.string a9.data.toList)) ?_ ?_ _ ?_
    · simp only [Program.fieldsOf, Tryz.underlying60]
      rfl
    · rw [List.getElem?_map, List.getElem?_eq_getElem (by omega), hy9]
      rfl
    · simp [DataW.weights]
instance : Inhabited UInt8 := ⟨0⟩
theorem open_byte_cells {fuel : Nat} {cl : List Value} {x : DataW H × List MemPlace} (hlen : cl.length = 1) (hf : DataW.trod enc Tryz.prog w base spare held fuel 5 cl = some x) : ∃ a : UInt8, cl = byC a ∧ True := by
  obtain ⟨n, e, -, hw⟩ := DataW.trod_int Tryz.underlying5 hf
  obtain ⟨a, rfl⟩ := u8_of hw
  exact ⟨a, e, trivial⟩
theorem open_u64_cells {fuel : Nat} {cl : List Value} {x : DataW H × List MemPlace} (hf : DataW.trod enc Tryz.prog w base spare held fuel 49 cl = some x) : ∃ a : Nat, cl = usC a ∧ a < 18446744073709551616 := by
  obtain ⟨n, e, -, hw⟩ := DataW.trod_int Tryz.underlying49 hf
  obtain ⟨a, rfl, hu⟩ := u64_of hw
  exact ⟨a, e, hu⟩
def ItOpen (w : World) (r : HRw) (x : DataW H) : Prop :=
  Sl byC w w.heap.size (.slice r.A r.x.bs.length r.cap) r.x.bs ∧ r.x.q.ok ∧ r.x.q.ib ∧ r.x.fits ∧ r.x.q.txt.length ∈ x.weights Tryz.prog 62
theorem open_item_cells {fuel : Nat} {cl : List Value} {x : DataW H × List MemPlace} (hlen : cl.length = 29) (hf : DataW.trod enc Tryz.prog w base spare held fuel 62 cl = some x) :
    ∃ r : HRw, cl = hiC r ∧ ItOpen w r x.1 := by
  have ki : Tryz.prog.cellsOf 3 = 1 := by kernel_rfl
  have ku : Tryz.prog.cellsOf 49 = 1 := by kernel_rfl
  have kb : Tryz.prog.cellsOf 52 = 1 := by kernel_rfl
  have kq : Tryz.prog.cellsOf 60 = 24 := by kernel_rfl
  obtain ⟨ys, n, _, hx, _, hyl, hf⟩ := DataW.trod_struct Tryz.underlying62 hf
  have hyl : ys.length = 6 := hyl
  have g0 : DataW.trod enc Tryz.prog w base spare held n 3 ((cl.drop 0).take (Tryz.prog.cellsOf 3)) = some (ys[0]'(by omega)) := (hf 0 _ rfl).trans (List.getElem?_eq_getElem (by omega))
  have g1 : DataW.trod enc Tryz.prog w base spare held n 3 ((cl.drop 1).take (Tryz.prog.cellsOf 3)) = some (ys[1]'(by omega)) := (hf 1 _ rfl).trans (List.getElem?_eq_getElem (by omega))
  have g2 : DataW.trod enc Tryz.prog w base spare held n 52 ((cl.drop 2).take (Tryz.prog.cellsOf 52)) = some (ys[2]'(by omega)) := (hf 2 _ rfl).trans (List.getElem?_eq_getElem (by omega))
  have g3 : DataW.trod enc Tryz.prog w base spare held n 49 ((cl.drop 3).take (Tryz.prog.cellsOf 49)) = some (ys[3]'(by omega)) := (hf 3 _ rfl).trans (List.getElem?_eq_getElem (by omega))
  have g4 : DataW.trod enc Tryz.prog w base spare held n 3 ((cl.drop 4).take (Tryz.prog.cellsOf 3)) = some (ys[4]'(by omega)) := (hf 4 _ rfl).trans (List.getElem?_eq_getElem (by omega))
  have g5 : DataW.trod enc Tryz.prog w base spare held n 60 ((cl.drop 5).take (Tryz.prog.cellsOf 60)) = some (ys[5]'(by omega)) := (hf 5 _ rfl).trans (List.getElem?_eq_getElem (by omega))
  obtain ⟨c0, c1, c2, c3, c4, cq, rfl⟩ : ∃ c0 c1 c2 c3 c4 cq, cl = c0 :: c1 :: c2 :: c3 :: c4 :: cq := by
    match cl, hlen with
    | c0 :: c1 :: c2 :: c3 :: c4 :: cq, _ => exact ⟨_, _, _, _, _, _, rfl⟩
  simp only [ki, ku, kb, kq, List.drop_zero, List.drop_succ_cons, List.take_succ_cons, List.take_zero] at g0 g1 g2 g3 g4 g5
  have hql : cq.length = 24 := by simpa using hlen
  rw [List.take_of_length_le (by omega)] at g5
  obtain ⟨a0, e0, -, -⟩ := DataW.trod_int Tryz.underlying3 g0
  obtain ⟨a1, e1, -, -⟩ := DataW.trod_int Tryz.underlying3 g1
  obtain ⟨l, A, cap, e2, hsl, -⟩ := open_slc (enc' := byC) (k := 1) (by omega) byC_len (fun _ _ => True) Tryz.underlying52 (by kernel_rfl) (fun n cs' x hx hl => open_byte_cells hl hx) g2
  obtain ⟨a3, e3, hu⟩ := open_u64_cells g3
  obtain ⟨a4, e4, -, -⟩ := DataW.trod_int Tryz.underlying3 g4
  obtain ⟨q, e5, h1, h2, h3⟩ := open_req_cells hql g5
  unfold usC at e3
  simp only [List.cons.injEq, and_true] at e0 e1 e3 e4
  subst e0 e1 e2 e3 e4 e5
  refine ⟨⟨⟨a0, a1, l, a3, a4, q⟩, A, cap⟩, rfl, hsl, h1, h2, hu, ?_⟩
  rw [hx]
  have hw : (DataW.agg (ys.map (·.1)) : DataW H).weights Tryz.prog 62 = DataW.weightsEach Tryz.prog (Tryz.prog.fieldsOf 62 |>.toList.map (·.type)) (ys.map (·.1)) := by
    simp only [DataW.weights, Tryz.underlying62, Program.fieldsOf]
  rw [hw]
  refine DataW.weights_mem_each (j := 5) (t := 60) (d := (ys[5]'(by omega)).1) ?_ ?_ _ h3
  · simp only [Program.fieldsOf, Tryz.underlying62]
    rfl
  · rw [List.getElem?_map, List.getElem?_eq_getElem (by omega)]
    rfl
instance : Inhabited HRw := ⟨⟨zeroIt, none, 0⟩⟩
theorem open_job {r : Reach} {b0 : Nat} {v : Value} {d : DataW H} {ps : List MemPlace} (hv : Value.okWide Tryz.prog w r b0 26 v) (h : DataW.Trod enc Tryz.prog w base spare held 26 v d ps) (hw : ∀ n ∈ d.weights Tryz.prog 26, n ≤ reachBytes) :
    ∃ vs vi ss rs, v = .agg #[vs, vi] ∧ JSl w vs vi ss rs := by
  obtain ⟨cs, rfl, hsz⟩ := okWide_struct Tryz.underlying26 hv
  have hC : Tryz.prog.cellsOf 26 = 2 := by kernel_rfl
  have ks : Tryz.prog.cellsOf 23 = 1 := by kernel_rfl
  have kt : Tryz.prog.cellsOf 24 = 1 := by kernel_rfl
  obtain ⟨fuel, hf⟩ := h
  obtain ⟨ys, n, _, hx, _, hyl, hf⟩ := DataW.trod_struct Tryz.underlying26 hf
  have hyl : ys.length = 2 := hyl
  have hcl : cs.toList.length = 2 := by rw [Array.length_toList]; exact hsz.trans hC
  obtain ⟨c0, c1, e⟩ : ∃ c0 c1, cs.toList = [c0, c1] := by
    match hcs : cs.toList, hcl with
    | [c0, c1], _ => exact ⟨c0, c1, rfl⟩
  have hce : (Value.agg cs).cells.toList = [c0, c1] := e
  rw [hce] at hf
  have g0 : DataW.trod enc Tryz.prog w base spare held n 23 (([c0, c1].drop 0).take (Tryz.prog.cellsOf 23)) = some (ys[0]'(by omega)) := (hf 0 _ rfl).trans (List.getElem?_eq_getElem (by omega))
  have g1 : DataW.trod enc Tryz.prog w base spare held n 24 (([c0, c1].drop 1).take (Tryz.prog.cellsOf 24)) = some (ys[1]'(by omega)) := (hf 1 _ rfl).trans (List.getElem?_eq_getElem (by omega))
  simp only [ks, kt, List.drop_zero, List.drop_succ_cons, List.take_succ_cons, List.take_zero] at g0 g1
  obtain ⟨ss, A, cap, rfl, hs, hsu⟩ := open_slc (enc' := usC) (k := 1) (by omega) usC_len (fun a _ => a < 18446744073709551616) Tryz.underlying23 (by kernel_rfl) (fun n cs' x hx hl => open_u64_cells hx) g0
  obtain ⟨rs, B, cap', rfl, hi, hit⟩ := open_slc (enc' := hiC) (k := 29) (by omega) hiC_len (fun a x => ItOpen w a x) Tryz.underlying24 (by kernel_rfl) (fun n cs' x hx hl => open_item_cells hl hx) g1
  refine ⟨.slice A ss.length cap, .slice B rs.length cap', ss, rs, by rw [← Array.toArray_toList (xs := cs), e], hs, hi, fun r hr => ?_, fun s hs => (hsu s hs).elim fun _ h => h.1⟩
  obtain ⟨x, ⟨h1, h2, h3, h4, h5⟩, h6⟩ := hit r hr
  have hd : d = .agg (ys.map (·.1)) := by
    have := congrArg Prod.fst hx
    exact this
  have h7 : r.x.q.txt.length ∈ d.weights Tryz.prog 26 := by
    rw [hd]
    have hw : (DataW.agg (ys.map (·.1)) : DataW H).weights Tryz.prog 26 = DataW.weightsEach Tryz.prog (Tryz.prog.fieldsOf 26 |>.toList.map (·.type)) (ys.map (·.1)) := by
      simp only [DataW.weights, Tryz.underlying26, Program.fieldsOf]
    rw [hw]
    refine DataW.weights_mem_each (j := 1) (t := 24) (d := (ys[1]'(by omega)).1) ?_ ?_ _ (h6 _ h5)
    · simp only [Program.fieldsOf, Tryz.underlying26]
      rfl
    · rw [List.getElem?_map, List.getElem?_eq_getElem (by omega)]
      rfl
  have h8 := hw _ h7
  have h9 : reachBytes + 4096 = 140737488355328 := by decide
  exact ⟨h1, ⟨h2, by omega⟩, h3, h4⟩
end
end Go.Proofs.YtldjgpnbkbmgoaaGreatDoor

namespace Go.Proofs.YtldjgpnbkbmgoaaGreatDoor
open Go.RowKit Go.ChangeShapes Go.WideShapes Go.ChangeAt
section
variable {H : Type} {enc : TypeId × Value → H}
theorem law_lifts_row {C : Checked} (own : ownKnob C.prog.godebug = none) (hl : laidOutB C.prog = true) {os : Os} (started : os.Started) {f : FuncId} {fn : Func} {s : ChangeSpec} {kk : Option ((H : Type) → List (DataW H) → Bool)} {apart fresh handsOn : Bool} {laid : List (String × DataW Unit)} {F : Stop.Interp} {tb : TypeId}
    (noInit : C.prog.inits.idxOf? f = none) (hfn : C.prog.funcs[f]? = some fn)
    (hb : C.prog.underlying tb = some .bool) (hr : fn.resultTypes = #[tb]) (hts : ∀ t ∈ fn.params.toList, C.prog.readableRec t = true ∧ t < C.prog.types.size) (hv : s.vars = [])
    (hspec : ∀ ds : List (DataW H), ds.length = fn.params.toList.length → (s.fn H ds).results = [.lit (.bool true)] ∧ (s.fn H ds).args = ds ∧ (s.fn H ds).vars = [])
    (witness : ∃ (w : World) (tape : Tape) (i : Input), w.os = os ∧ (w.forCall tape i).Shaped C.prog ∧ i.vars = [] ∧ Input.okWide C.prog (w.forCall tape i) .any w.heap.size f i ∧
      ({ OpenSpec.ofChange s with cond := kk } : OpenSpec).preRow enc C.prog fn [] apart laid (w.forCall tape i).memory i.args ∧ ({} : Assume).holds C.prog (lone (Frame.enter C.prog f i.args .normal) [] (w.forCall tape i)))
    (contract : ∀ (W : World) (base : Nat) (args : Array Value) (ds : List (DataW H)) (ps : List MemPlace),
      (∀ (j : Nat) t v, fn.params[j]? = some t → args[j]? = some v → Value.okWide C.prog W .any base t v) →
      DataW.TrodAll enc C.prog W 0 (fun _ => true) true fn.params.toList args.toList ds ps → (∀ k, kk = some k → k H ds = true) → (DataW.weightsEach C.prog fn.params.toList ds).all (· ≤ reachBytes) = true → Calls C.prog f args W (Holds W)) :
    ReturnsInHanded {} C os f .any (({ OpenSpec.ofChange s with cond := kk } : OpenSpec).preRow enc C.prog fn [] apart laid) ((({ OpenSpec.ofChange s with cond := kk } : OpenSpec).at F).post enc C.prog fn apart fresh handsOn false) := by
  refine returnsInHanded_of_row (s := { OpenSpec.ofChange s with cond := kk }) own started noInit hfn witness ?_
  intro W base args ds gs before hval hW _ hk hwt _ _ _
  have hW0 : DataW.Whole enc C.prog fn.params.toList s.vars apart W args.toList ds gs before := hW
  obtain ⟨p, q, hA, hV, rfl, hfz, hnd⟩ := hW0
  have hvt : s.plain.varTypes C.prog = [] := by
    unfold DataSpec.varTypes ChangeSpec.plain
    simp [hv]
  have hV2 := hV
  rw [hv] at hV2
  obtain ⟨rfl, rfl⟩ := trodVars_none hV2
  have hwt2 : (DataW.weightsEach C.prog (fn.params.toList ++ s.plain.varTypes C.prog) (ds ++ [])).all (· ≤ reachBytes) = true := hwt
  rw [hvt, List.append_nil, List.append_nil] at hwt2
  have hk2 : ∀ k, kk = some k → k H ds = true := fun k e => by
    have := hk k e
    rwa [List.append_nil] at this
  exact (contract W base args ds p hval hA hk2 hwt2).mono fun e W' ⟨he, hbel⟩ => ⟨_, he, law_post hl hb hr hts hv hspec hW hbel⟩
end
def firstC : Array Value := (Go.Pinned.utf8FirstZ.map fun (n : Nat) => Value.int .u8 (n : Int)).toArray
def rangesC : Array Value := #[.int .u8 128, .int .u8 191, .int .u8 160, .int .u8 191, .int .u8 128, .int .u8 159, .int .u8 144, .int .u8 191, .int .u8 128, .int .u8 143, .int .u8 0, .int .u8 0, .int .u8 0, .int .u8 0, .int .u8 0, .int .u8 0, .int .u8 0, .int .u8 0, .int .u8 0, .int .u8 0, .int .u8 0, .int .u8 0, .int .u8 0, .int .u8 0, .int .u8 0, .int .u8 0, .int .u8 0, .int .u8 0, .int .u8 0, .int .u8 0, .int .u8 0, .int .u8 0]
def relay (cs : Array Value) : Obj → Obj
  | .cells _ t frozen => .cells cs t frozen
  | o => o
noncomputable def laidWorld (os : Os) : World :=
  { World.holding Tryz.prog os ⟨#[], #[], []⟩ with heap := ((World.holding Tryz.prog os ⟨#[], #[], []⟩).heap.modify 1 (relay firstC)).modify 2 (relay rangesC) }
def laidTab : List (String × DataW Unit) := [("unicode/utf8.acceptRanges", Rows.laid_unicode_utf8_acceptRanges), ("unicode/utf8.first", Rows.laid_unicode_utf8_first)]
theorem laid_met (os : Os) (args : Array Value) : laidMet Tryz.prog laidTab ((laidWorld os).forCall (fun _ _ => 0) ⟨#[], args, []⟩).memory :=
  laidMet_of_run' 8 (by kernel_rfl) (by kernel_rfl)
end Go.Proofs.YtldjgpnbkbmgoaaGreatDoor

