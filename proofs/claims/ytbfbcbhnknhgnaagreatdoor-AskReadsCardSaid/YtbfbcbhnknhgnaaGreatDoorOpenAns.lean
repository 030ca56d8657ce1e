/-
  An answer as an argument, opened. Conditions: none.
  Strings opened, and how long they may be by the second form's bound. Conditions: none.
-/
import Derived.Test.YtbfbcbhnknhgnaaGreatDoorSized
import Derived.Test.YtbfbcbhnknhgnaaGreatDoorAns
import Derived.Test.YtbfbcbhnknhgnaaGreatDoorOpen
namespace Go.Proofs.YtbfbcbhnknhgnaaGreatDoor
open Go.RowKit Go.ChangeShapes Go.WideShapes Go.Deep

section
variable {H : Type} {enc : TypeId × Value → H} {P : Program} {w : World} {base : Nat} {spare : Nat → Bool} {held : Bool}
/-- A slice among a struct's cells, as a list. -/
theorem open_slc {α : Type} [Inhabited α] {enc' : α → List Value} {k : Nat} (hkp : 0 < k) (hk : ∀ a, (enc' a).length = k) {t e : TypeId} {fuel : Nat} {cs : List Value} {x : DataW H × List MemPlace} (ht : P.underlying t = some (.slice e)) (hC : P.cellsOf e = k)
    (hel : ∀ n cs' x, DataW.trod enc P w base spare held n e cs' = some x → cs'.length = k → ∃ a, cs' = enc' a)
    (hf : DataW.trod enc P w base spare held fuel t cs = some x) : ∃ (v : Value) (l : List α), cs = [v] ∧ Sl enc' w w.heap.size v l := by
  obtain ⟨d, ps⟩ := x
  rcases open_slice ht hf with ⟨hcs, _⟩ | ⟨a, len0, cap0, m, n, D, Pl, hcs, hb, hl, hm, hmm, _, hi⟩
  · exact ⟨_, [], hcs, Sl.nil⟩
  · have hlm : len0 ≤ m := by rw [hmm]; split <;> omega
    obtain ⟨f, hf⟩ := choose_lt (n := len0) (p := fun i x => w.cells? base (a.add (i * k)) k = some (enc' x)) (fun i hil => by
      obtain ⟨cs', hc, htr⟩ := hi i (by omega)
      rw [hC] at hc
      obtain ⟨_, hcl, _⟩ := World.cells?_some hc
      obtain ⟨x, rfl⟩ := hel _ _ _ htr hcl
      exact ⟨x, hc⟩)
    refine ⟨_, (List.range len0).map f, hcs, ⟨some a, cap0, by simp, by simpa using hl, hm, fun hp => ?_⟩⟩
    have hlen : 0 < len0 := by simpa using hp
    have h0 := (World.cells?_some (hf 0 hlen)).2.2 0 hkp
    have hsome : ∃ u, w.cell? a = some u := by
      have e : (a.add (0 * k)).add 0 = a := by simp [Addr.add]
      rw [e] at h0
      exact ⟨_, h0.trans (List.getElem?_eq_getElem (by rw [hk]; exact hkp))⟩
    obtain ⟨u, hu⟩ := hsome
    have hform := fun j => (add_form (j := j) hu).1
    have hsp := (add_form (j := 0) hu).2
    obtain ⟨b, off, sp⟩ := a
    simp only at hsp
    subst hsp
    refine ⟨b, off, rfl, World.block_lt_of_cell? w ⟨b, off, none⟩ hu, lay_join hk _ _ fun i hi => ?_⟩
    simp only [List.length_map, List.length_range] at hi
    simp only [List.getElem_map, List.getElem_range]
    intro j u' hu'
    have hjk : j < k := by
      have := (List.getElem?_eq_some_iff.1 hu').1
      rwa [hk] at this
    have hc := (World.cells?_some (hf i hi)).2.2 j hjk
    rw [hu', Go.Deep.add_add, hform] at hc
    simpa [Nat.add_assoc] using hc
end

section
variable {H : Type} {enc : TypeId × Value → H} {w : World} {base : Nat} {spare : Nat → Bool} {held : Bool}
instance : Inhabited Sn := ⟨⟨0, 0, 0, 0, 0, 0⟩⟩
instance : Inhabited Ev := ⟨⟨0, 0, 0, 0⟩⟩
set_option maxRecDepth 100000 in
theorem trod_four {t : TypeId} (hu : Tryz.prog.underlying t = Tryz.prog.underlying 24) (n : Nat) (c0 c1 c2 c3 : Value) (x : DataW H × List MemPlace) (h : DataW.trod enc Tryz.prog w base spare held n t [c0, c1, c2, c3] = some x) : ∃ a b c d : Int, c0 = .int .i64 a ∧ c1 = .int .i64 b ∧ c2 = .int .i64 c ∧ c3 = .int .i64 d := by
  obtain ⟨ys, m, _, _, _, hyl, hf⟩ := DataW.trod_struct (hu.trans Tryz.underlying24) h
  have hyl : ys.length = 4 := hyl
  have ki : Tryz.prog.cellsOf 3 = 1 := by kernel_rfl
  have g0 : DataW.trod enc Tryz.prog w base spare held m 3 (([c0, c1, c2, c3].drop 0).take (Tryz.prog.cellsOf 3)) = some (ys[0]'(by omega)) := (hf 0 _ rfl).trans (List.getElem?_eq_getElem (by omega))
  have g1 : DataW.trod enc Tryz.prog w base spare held m 3 (([c0, c1, c2, c3].drop 1).take (Tryz.prog.cellsOf 3)) = some (ys[1]'(by omega)) := (hf 1 _ rfl).trans (List.getElem?_eq_getElem (by omega))
  have g2 : DataW.trod enc Tryz.prog w base spare held m 3 (([c0, c1, c2, c3].drop 2).take (Tryz.prog.cellsOf 3)) = some (ys[2]'(by omega)) := (hf 2 _ rfl).trans (List.getElem?_eq_getElem (by omega))
  have g3 : DataW.trod enc Tryz.prog w base spare held m 3 (([c0, c1, c2, c3].drop 3).take (Tryz.prog.cellsOf 3)) = some (ys[3]'(by omega)) := (hf 3 _ rfl).trans (List.getElem?_eq_getElem (by omega))
  simp only [ki, List.drop_zero, List.drop_succ_cons, List.take_succ_cons, List.take_zero] at g0 g1 g2 g3
  obtain ⟨a0, e0, -, -⟩ := DataW.trod_int Tryz.underlying3 g0
  obtain ⟨a1, e1, -, -⟩ := DataW.trod_int Tryz.underlying3 g1
  obtain ⟨a2, e2, -, -⟩ := DataW.trod_int Tryz.underlying3 g2
  obtain ⟨a3, e3, -, -⟩ := DataW.trod_int Tryz.underlying3 g3
  simp only [List.cons.injEq, and_true] at e0 e1 e2 e3
  exact ⟨a0, a1, a2, a3, e0, e1, e2, e3⟩
set_option maxRecDepth 100000 in
theorem trod_evt (n : Nat) (cs : List Value) (x : DataW H × List MemPlace) (h : DataW.trod enc Tryz.prog w base spare held n 126 cs = some x) (hl : cs.length = 4) : ∃ a : Ev, cs = evC a := by
  match cs, hl with
  | [c0, c1, c2, c3], _ =>
    obtain ⟨ys, m, _, _, _, hyl, hf⟩ := DataW.trod_struct Tryz.underlying126 h
    have hyl : ys.length = 4 := hyl
    have ki : Tryz.prog.cellsOf 3 = 1 := by kernel_rfl
    have g0 : DataW.trod enc Tryz.prog w base spare held m 3 (([c0, c1, c2, c3].drop 0).take (Tryz.prog.cellsOf 3)) = some (ys[0]'(by omega)) := (hf 0 _ rfl).trans (List.getElem?_eq_getElem (by omega))
    have g1 : DataW.trod enc Tryz.prog w base spare held m 3 (([c0, c1, c2, c3].drop 1).take (Tryz.prog.cellsOf 3)) = some (ys[1]'(by omega)) := (hf 1 _ rfl).trans (List.getElem?_eq_getElem (by omega))
    have g2 : DataW.trod enc Tryz.prog w base spare held m 3 (([c0, c1, c2, c3].drop 2).take (Tryz.prog.cellsOf 3)) = some (ys[2]'(by omega)) := (hf 2 _ rfl).trans (List.getElem?_eq_getElem (by omega))
    have g3 : DataW.trod enc Tryz.prog w base spare held m 3 (([c0, c1, c2, c3].drop 3).take (Tryz.prog.cellsOf 3)) = some (ys[3]'(by omega)) := (hf 3 _ rfl).trans (List.getElem?_eq_getElem (by omega))
    simp only [ki, List.drop_zero, List.drop_succ_cons, List.take_succ_cons, List.take_zero] at g0 g1 g2 g3
    obtain ⟨a0, e0, -, -⟩ := DataW.trod_int Tryz.underlying3 g0
    obtain ⟨a1, e1, -, -⟩ := DataW.trod_int Tryz.underlying3 g1
    obtain ⟨a2, e2, -, -⟩ := DataW.trod_int Tryz.underlying3 g2
    obtain ⟨a3, e3, -, -⟩ := DataW.trod_int Tryz.underlying3 g3
    simp only [List.cons.injEq, and_true] at e0 e1 e2 e3
    subst e0 e1 e2 e3
    exact ⟨⟨a0, a1, a2, a3⟩, rfl⟩
set_option maxRecDepth 100000 in
theorem trod_sn (n : Nat) (cs : List Value) (x : DataW H × List MemPlace) (h : DataW.trod enc Tryz.prog w base spare held n 64 cs = some x) (hl : cs.length = 6) : ∃ a : Sn, cs = snC a := by
  match cs, hl with
  | [c0, c1, c2, c3, c4, c5], _ =>
    obtain ⟨ys, m, _, _, _, hyl, hf⟩ := DataW.trod_struct Tryz.underlying64 h
    have hyl : ys.length = 3 := hyl
    have ki : Tryz.prog.cellsOf 3 = 1 := by kernel_rfl
    have kR : Tryz.prog.cellsOf 24 = 4 := by kernel_rfl
    have g0 : DataW.trod enc Tryz.prog w base spare held m 3 (([c0, c1, c2, c3, c4, c5].drop 0).take (Tryz.prog.cellsOf 3)) = some (ys[0]'(by omega)) := (hf 0 _ rfl).trans (List.getElem?_eq_getElem (by omega))
    have g1 : DataW.trod enc Tryz.prog w base spare held m 3 (([c0, c1, c2, c3, c4, c5].drop 1).take (Tryz.prog.cellsOf 3)) = some (ys[1]'(by omega)) := (hf 1 _ rfl).trans (List.getElem?_eq_getElem (by omega))
    have g2 : DataW.trod enc Tryz.prog w base spare held m 24 (([c0, c1, c2, c3, c4, c5].drop 2).take (Tryz.prog.cellsOf 24)) = some (ys[2]'(by omega)) := (hf 2 _ rfl).trans (List.getElem?_eq_getElem (by omega))
    simp only [ki, kR, List.drop_zero, List.drop_succ_cons, List.take_succ_cons, List.take_zero] at g0 g1 g2
    obtain ⟨a0, e0, -, -⟩ := DataW.trod_int Tryz.underlying3 g0
    obtain ⟨a1, e1, -, -⟩ := DataW.trod_int Tryz.underlying3 g1
    obtain ⟨a2, a3, a4, a5, rfl, rfl, rfl, rfl⟩ := trod_four rfl _ _ _ _ _ _ g2
    simp only [List.cons.injEq, and_true] at e0 e1
    subst e0 e1
    exact ⟨⟨a0, a1, a2, a3, a4, a5⟩, rfl⟩
set_option maxRecDepth 100000 in
theorem trod_rec (n : Nat) (c0 c1 c2 c3 : Value) (x : DataW H × List MemPlace) (h : DataW.trod enc Tryz.prog w base spare held n 67 [c0, c1, c2, c3] = some x) : ∃ a b c d : Int, c0 = .int .i64 a ∧ c1 = .int .i64 b ∧ c2 = .int .i64 c ∧ c3 = .int .i64 d := by
  obtain ⟨ys, m, _, _, _, hyl, hf⟩ := DataW.trod_struct Tryz.underlying67 h
  have hyl : ys.length = 3 := hyl
  have ki : Tryz.prog.cellsOf 3 = 1 := by kernel_rfl
  have kA : Tryz.prog.cellsOf 28 = 2 := by kernel_rfl
  have g0 : DataW.trod enc Tryz.prog w base spare held m 3 (([c0, c1, c2, c3].drop 0).take (Tryz.prog.cellsOf 3)) = some (ys[0]'(by omega)) := (hf 0 _ rfl).trans (List.getElem?_eq_getElem (by omega))
  have g1 : DataW.trod enc Tryz.prog w base spare held m 28 (([c0, c1, c2, c3].drop 1).take (Tryz.prog.cellsOf 28)) = some (ys[1]'(by omega)) := (hf 1 _ rfl).trans (List.getElem?_eq_getElem (by omega))
  have g3 : DataW.trod enc Tryz.prog w base spare held m 3 (([c0, c1, c2, c3].drop 3).take (Tryz.prog.cellsOf 3)) = some (ys[2]'(by omega)) := (hf 2 _ rfl).trans (List.getElem?_eq_getElem (by omega))
  simp only [ki, kA, List.drop_zero, List.drop_succ_cons, List.take_succ_cons, List.take_zero] at g0 g1 g3
  obtain ⟨a0, e0, -, -⟩ := DataW.trod_int Tryz.underlying3 g0
  obtain ⟨zs, m2, _, _, _, hzl, hz⟩ := DataW.trod_struct Tryz.underlying28 g1
  have hzl : zs.length = 2 := hzl
  have q0 : DataW.trod enc Tryz.prog w base spare held m2 3 (([c1, c2].drop 0).take (Tryz.prog.cellsOf 3)) = some (zs[0]'(by omega)) := (hz 0 _ rfl).trans (List.getElem?_eq_getElem (by omega))
  have q1 : DataW.trod enc Tryz.prog w base spare held m2 3 (([c1, c2].drop 1).take (Tryz.prog.cellsOf 3)) = some (zs[1]'(by omega)) := (hz 1 _ rfl).trans (List.getElem?_eq_getElem (by omega))
  simp only [ki, List.drop_zero, List.drop_succ_cons, List.take_succ_cons, List.take_zero] at q0 q1
  obtain ⟨a1, e1, -, -⟩ := DataW.trod_int Tryz.underlying3 q0
  obtain ⟨a2, e2, -, -⟩ := DataW.trod_int Tryz.underlying3 q1
  obtain ⟨a3, e3, -, -⟩ := DataW.trod_int Tryz.underlying3 g3
  simp only [List.cons.injEq, and_true] at e0 e1 e2 e3
  exact ⟨a0, a1, a2, a3, e0, e1, e2, e3⟩

set_option maxRecDepth 100000 in
theorem str_fits {b : List UInt8} {ts : List TypeId} {ds : List (DataW H)} {j : Nat} (hd : ds[j]? = some (.lit (.string b))) (ht : ts[j]? = some 9) (h : (DataW.weightsEach Tryz.prog ts ds).all (· ≤ reachBytes) = true) : b.length ≤ 9223372036854775807 := by
  have h1 := List.all_eq_true.1 h _ (DataW.weights_mem_each ht hd b.length (by simp [DataW.weights]))
  have h2 : b.length ≤ reachBytes := by simpa using h1
  have h3 : reachBytes + 4096 = 140737488355328 := by decide
  omega

set_option maxRecDepth 100000 in
set_option maxHeartbeats 1000000 in
theorem open_ans {r : Reach} {b0 : Nat} {v : Value} {d : DataW H} {ps : List MemPlace} (hv : Value.okWide Tryz.prog w r b0 70 v) (h : DataW.Trod enc Tryz.prog w base spare held 70 v d ps) :
    ∃ (a : Ans) (sv ev : Value), v = .agg (anC a sv ev) ∧ Sl snC w w.heap.size sv a.seen ∧ Sl evC w w.heap.size ev a.events ∧ a.secret < 18446744073709551616 := by
  obtain ⟨cs, rfl, hsz⟩ := okWide_struct Tryz.underlying70 hv
  have hC : Tryz.prog.cellsOf 70 = 12 := by kernel_rfl
  have ki : Tryz.prog.cellsOf 3 = 1 := by kernel_rfl
  have ku : Tryz.prog.cellsOf 22 = 1 := by kernel_rfl
  have kR : Tryz.prog.cellsOf 24 = 4 := by kernel_rfl
  have kC : Tryz.prog.cellsOf 67 = 4 := by kernel_rfl
  have kS : Tryz.prog.cellsOf 65 = 1 := by kernel_rfl
  have kE : Tryz.prog.cellsOf 68 = 1 := by kernel_rfl
  obtain ⟨cl⟩ := cs
  match cl, hsz.trans hC with
  | [c0, c1, c2, c3, c4, c5, c6, c7, c8, c9, c10, c11], _ =>
    obtain ⟨fuel, hf⟩ := h
    obtain ⟨ys, n, _, hx, _, hyl, hf⟩ := DataW.trod_struct Tryz.underlying70 hf
    have hyl : ys.length = 6 := hyl
    have g0 : DataW.trod enc Tryz.prog w base spare held n 3 (([c0, c1, c2, c3, c4, c5, c6, c7, c8, c9, c10, c11].drop 0).take (Tryz.prog.cellsOf 3)) = some (ys[0]'(by omega)) := (hf 0 _ rfl).trans (List.getElem?_eq_getElem (by omega))
    have g1 : DataW.trod enc Tryz.prog w base spare held n 22 (([c0, c1, c2, c3, c4, c5, c6, c7, c8, c9, c10, c11].drop 1).take (Tryz.prog.cellsOf 22)) = some (ys[1]'(by omega)) := (hf 1 _ rfl).trans (List.getElem?_eq_getElem (by omega))
    have g2 : DataW.trod enc Tryz.prog w base spare held n 67 (([c0, c1, c2, c3, c4, c5, c6, c7, c8, c9, c10, c11].drop 2).take (Tryz.prog.cellsOf 67)) = some (ys[2]'(by omega)) := (hf 2 _ rfl).trans (List.getElem?_eq_getElem (by omega))
    have g3 : DataW.trod enc Tryz.prog w base spare held n 24 (([c0, c1, c2, c3, c4, c5, c6, c7, c8, c9, c10, c11].drop 6).take (Tryz.prog.cellsOf 24)) = some (ys[3]'(by omega)) := (hf 3 _ rfl).trans (List.getElem?_eq_getElem (by omega))
    have g4 : DataW.trod enc Tryz.prog w base spare held n 65 (([c0, c1, c2, c3, c4, c5, c6, c7, c8, c9, c10, c11].drop 10).take (Tryz.prog.cellsOf 65)) = some (ys[4]'(by omega)) := (hf 4 _ rfl).trans (List.getElem?_eq_getElem (by omega))
    have g5 : DataW.trod enc Tryz.prog w base spare held n 68 (([c0, c1, c2, c3, c4, c5, c6, c7, c8, c9, c10, c11].drop 11).take (Tryz.prog.cellsOf 68)) = some (ys[5]'(by omega)) := (hf 5 _ rfl).trans (List.getElem?_eq_getElem (by omega))
    simp only [ki, ku, kR, kC, kS, kE, List.drop_zero, List.drop_succ_cons, List.take_succ_cons, List.take_zero] at g0 g1 g2 g3 g4 g5
    obtain ⟨a0, e0, -, -⟩ := DataW.trod_int Tryz.underlying3 g0
    obtain ⟨n1, e1, -, wf1⟩ := DataW.trod_int Tryz.underlying22 g1
    obtain ⟨a1, rfl, hu1⟩ := u64_of wf1
    obtain ⟨a2, a3, a4, a5, rfl, rfl, rfl, rfl⟩ := trod_rec _ _ _ _ _ _ g2
    obtain ⟨a6, a7, a8, a9, rfl, rfl, rfl, rfl⟩ := trod_four rfl _ _ _ _ _ _ g3
    obtain ⟨sv, sl, es, hs⟩ := open_slc (by omega) snC_len Tryz.underlying65 (by kernel_rfl) trod_sn g4
    obtain ⟨ev, el, ee, he⟩ := open_slc (by omega) evC_len Tryz.underlying68 (by kernel_rfl) trod_evt g5
    simp only [List.cons.injEq, and_true] at e0 e1 es ee
    subst e0 e1 es ee
    exact ⟨⟨a0, a1, a2, a3, a4, a5, a6, a7, a8, a9, sl, el⟩, c10, c11, rfl, hs, he, Nat.lt_of_lt_of_eq hu1 (by decide)⟩
end
end Go.Proofs.YtbfbcbhnknhgnaaGreatDoor

namespace Go.Proofs.YtbfbcbhnknhgnaaGreatDoor
open Go.RowKit Go.ChangeShapes Go.WideShapes

section
variable {H : Type} {enc : TypeId × Value → H} {w : World} {base : Nat} {spare : Nat → Bool} {held : Bool}
set_option maxRecDepth 100000 in
theorem open_strd {r : Reach} {b0 : Nat} {v : Value} {d : DataW H} {ps : List MemPlace} (hv : Value.okWide Tryz.prog w r b0 9 v) (h : DataW.Trod enc Tryz.prog w base spare held 9 v d ps) : ∃ a : ByteArray, v = .string a ∧ d = .lit (.string a.data.toList) := by
  obtain ⟨s, rfl⟩ := okWide_string Tryz.underlying9 hv
  obtain ⟨fuel, hf⟩ := h
  obtain ⟨s', h, hx, _⟩ := DataW.trod_string Tryz.underlying9 hf
  simp [Value.cells] at h
  subst h
  simp only [Prod.mk.injEq] at hx
  exact ⟨s, rfl, hx.1⟩
end
theorem bulk_mem {H : Type} : ∀ {ds : List (DataW H)} {j : Nat} {d : DataW H}, ds[j]? = some d → Rows.uptoBulk d ≤ Rows.uptoBulkAll ds
  | [], j, d, h => by simp at h
  | x :: r, 0, d, h => by
    simp only [List.getElem?_cons_zero, Option.some.injEq] at h
    subst h
    simp only [Rows.uptoBulkAll]
    omega
  | x :: r, j + 1, d, h => by
    simp only [List.getElem?_cons_succ] at h
    have := bulk_mem h
    simp only [Rows.uptoBulkAll]
    omega
theorem bulk_str {H : Type} {ds : List (DataW H)} (h : Rows.uptoSmall H ds = true) {j : Nat} {b : List UInt8} (hd : ds[j]? = some (.lit (.string b))) : b.length ≤ 1048576 := by
  have h1 := bulk_mem hd
  have h2 : Rows.uptoBulkAll ds ≤ 1048576 := by simpa [Rows.uptoSmall] using h
  simp only [Rows.uptoBulk] at h1
  omega
end Go.Proofs.YtbfbcbhnknhgnaaGreatDoor
