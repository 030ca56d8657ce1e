/-
  The reference's widths of fields. Conditions: as each states.
-/
import Derived.Test.YtldjgpnbkbmgoaaGreatDoorDecode
import Derived.Deep.DeepCutAuto
namespace Go.Proofs.YtldjgpnbkbmgoaaGreatDoor
open Go.RowKit Go.Lib

def inC (n : Nat) : List Value := [.int .i64 (n : Int)]
theorem inC_len (n : Nat) : (inC n).length = 1 := rfl

/-- The widths of an operation's fields. -/
def widths (op : Int) : List Nat :=
  if op = 1 then [2, 1, 1, 2] else if op = 2 then [2] else if op = 4 then [2, 1, 4] else if op = 5 then [1, 1, 2, 2, 2, 2, 4] else if op = 6 then [8] else if op = 7 then [2, 8] else
  if op = 8 then [2, 2, 1] else if op = 13 then [2, 2, 2, 2] else if op = 14 then [2, 2] else if op = 15 then [2, 2, 2, 2] else if op = 16 then [2, 2] else if op = 17 then [2] else if op = 19 then [2, 2] else []

/-- Several objects made one behind the other. -/
def allocs (w : World) : List Obj → World
  | [] => w
  | o :: os => allocs (w.alloc o) os
theorem allocs_size : ∀ (os : List Obj) (w : World), (allocs w os).heap.size = w.heap.size + os.length
  | [], w => rfl
  | o :: os, w => by
    unfold allocs
    rw [allocs_size os]
    simp
    omega
theorem allocs_old : ∀ (os : List Obj) (w : World) (b : Nat), b < w.heap.size → (allocs w os).heap[b]? = w.heap[b]?
  | [], w, b, _ => rfl
  | o :: os, w, b, h => by
    unfold allocs
    rw [allocs_old os _ b (by simp; omega)]
    exact Below.heap_alloc w o b h
theorem allocs_get : ∀ (os : List Obj) (w : World) (k : Nat) (o : Obj), os[k]? = some o → (allocs w os).heap[w.heap.size + k]? = some o
  | [], w, k, o, h => by simp at h
  | o' :: os, w, 0, o, h => by
    unfold allocs
    rw [Nat.add_zero, allocs_old os _ _ (by simp), heap_alloc_new]
    simpa using h
  | o' :: os, w, k + 1, o, h => by
    unfold allocs
    have := allocs_get os (w.alloc o') k o (by simpa using h)
    rw [show (w.alloc o').heap.size = w.heap.size + 1 by simp] at this
    rw [show w.heap.size + (k + 1) = w.heap.size + 1 + k by omega]
    exact this
theorem allocs_below : ∀ (os : List Obj) (w : World), Below w.heap.size w (allocs w os)
  | [], w => Below.refl _ _
  | o :: os, w => ((Below.refl w.heap.size w).alloc (Nat.le_refl _) o).trans ((allocs_below os (w.alloc o)).mono (by simp))
theorem sl_allocs (os : List Obj) (w : World) (k b : Nat) (ys : List Nat) (hb : b = w.heap.size + k) (hk : os[k]? = some (.cells (ys.flatMap inC).toArray 3 (0, 0))) (hm : ys.length ≤ 100) :
    Sl inC (allocs w os) (allocs w os).heap.size (.slice (some ⟨b, 0, none⟩) ys.length ys.length) ys := by
  subst hb
  have hg := allocs_get os w k _ hk
  refine ⟨_, _, rfl, Nat.le_refl _, by unfold maxLen; omega, fun _ => ⟨_, 0, rfl, (Array.getElem?_eq_some_iff.1 hg).1, ?_⟩⟩
  have := Blk.lay (show Blk (allocs w os) (w.heap.size + k) 3 (ys.flatMap inC).toArray from hg)
  simpa using this

/-- A table of slices in block g: row i reads as the widths of operation i. -/
def Tab (w w1 : World) (s : Value) : Prop := ∃ g, s = .slice (some ⟨g, 0, none⟩) 20 20 ∧ Below w.heap.size w w1 ∧ ∀ i : Nat, isOp i = true → ∃ v, w1.cell? ⟨g, i, none⟩ = some v ∧ Sl inC w1 w1.heap.size v (widths i)

theorem tab_allocs (os : List Obj) (w : World) (g : Nat) (vs : Array Value) (hg : g = w.heap.size + 20) (ho : os[20]? = some (.cells vs 124 (0, 0)))
    (hr : ∀ i : Nat, isOp i = true → vs[i]? = some (.slice (some ⟨w.heap.size + i, 0, none⟩) (widths i).length (widths i).length) ∧ os[i]? = some (.cells ((widths i).flatMap inC).toArray 3 (0, 0)) ∧ (widths i).length ≤ 100) :
    Tab w (allocs w os) (.slice (some ⟨g, 0, none⟩) 20 20) := by
  refine ⟨g, rfl, allocs_below os w, fun i hi => ?_⟩
  obtain ⟨h1, h2, h3⟩ := hr i hi
  subst hg
  have hb : Blk (allocs w os) (w.heap.size + 20) 124 vs := allocs_get os w 20 _ ho
  exact ⟨_, hb.is i h1, sl_allocs os w i _ (widths i) rfl h2 h3⟩

set_option maxRecDepth 100000 in
set_option maxHeartbeats 4000000 in
theorem rfields_ok (op : Int) (h : isOp op = true) (w : World) : Calls Tryz.prog 76 #[.int .i64 op] w fun e w' => ∃ v, e = .returned v ∧ Sl inC w' w'.heap.size v (widths op) ∧ Below w.heap.size w w' := by
  obtain ⟨i, rfl⟩ : ∃ i : Nat, op = i := ⟨op.toNat, by have := (isOp_le h).1; omega⟩
  have hi := isOp_le h
  have HO := Lib.hid h
  clear h
  go_enter Tryz.func76, Tryz.ntmps76
  go_upto_region 1 with fail
  go_cut [3] (fun s w1 => Tab w w1 s)
  case first =>
    go_wp2_with fail
    go_meet
    change Tab w (allocs w [_, _, _, _, _, _, _, _, _, _, _, _, _, _, _, _, _, _, _, _, _]) _
    refine tab_allocs _ w _ _ rfl rfl fun i hi => ?_
    have h19 := isOp_le hi
    obtain rfl | rfl | rfl | rfl | rfl | rfl | rfl | rfl | rfl | rfl | rfl | rfl | rfl | rfl | rfl | rfl | rfl | rfl | rfl : i = 1 ∨ i = 2 ∨ i = 3 ∨ i = 4 ∨ i = 5 ∨ i = 6 ∨ i = 7 ∨ i = 8 ∨ i = 9 ∨ i = 10 ∨ i = 11 ∨ i = 12 ∨ i = 13 ∨ i = 14 ∨ i = 15 ∨ i = 16 ∨ i = 17 ∨ i = 18 ∨ i = 19 := by omega
    all_goals exact ⟨rfl, rfl, by decide⟩
  case rest =>
    obtain ⟨g, rfl, hb, hrow⟩ := hcut
    obtain ⟨v, hv, hs⟩ := hrow i HO.out
    have HS := Lib.hid hs
    clear hrow hs
    go_wp2_with fail
    go_ret
    exact ⟨_, rfl, HS.out, hb⟩
end Go.Proofs.YtldjgpnbkbmgoaaGreatDoor
