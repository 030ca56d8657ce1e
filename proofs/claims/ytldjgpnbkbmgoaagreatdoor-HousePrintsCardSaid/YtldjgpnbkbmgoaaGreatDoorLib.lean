/-
  Small laws that every proof of this seat leans on: cells that lie in a row, a slice that reads as a list, a block that is known whole. Conditions: none.
-/
import Derived.Below
import Derived.Laws.OwnMore
import Derived.Deep.AppendLies
import Derived.Deep.Draws
import Derived.Laws.Rows
namespace Go.Proofs.YtldjgpnbkbmgoaaGreatDoor
open Go.RowKit

/-- The cells xs lie in block b from off on. -/
def Lay (w : World) (b off : Nat) (xs : List Value) : Prop := ∀ j u, xs[j]? = some u → w.cell? ⟨b, off + j, none⟩ = some u

theorem Lay.of_heap {w w' : World} {b off : Nat} {xs : List Value} (h : Lay w b off xs) (e : w'.heap[b]? = w.heap[b]?) : Lay w' b off xs :=
  fun j u hu => (World.cell?_of_block (a := ⟨b, off + j, none⟩) e).trans (h j u hu)
theorem Lay.drewN {w : World} {b off : Nat} {xs : List Value} (h : Lay w b off xs) (n : Nat) : Lay (w.drewN n) b off xs := h
theorem Lay.drop {w : World} {b off : Nat} {xs : List Value} (h : Lay w b off xs) (k : Nat) : Lay w b (off + k) (xs.drop k) :=
  fun j u hu => by rw [Nat.add_assoc]; exact h (k + j) u (by rw [← hu, List.getElem?_drop])
theorem Lay.take {w : World} {b off : Nat} {xs : List Value} (h : Lay w b off xs) (k : Nat) : Lay w b off (xs.take k) :=
  fun j u hu => h j u (by
    rw [List.getElem?_take] at hu
    split at hu
    · exact hu
    · cases hu)
theorem Lay.left {w : World} {b off : Nat} {xs ys : List Value} (h : Lay w b off (xs ++ ys)) : Lay w b off xs := by
  have := h.take xs.length
  rwa [List.take_left] at this
theorem Lay.right {w : World} {b off : Nat} {xs ys : List Value} (h : Lay w b off (xs ++ ys)) : Lay w b (off + xs.length) ys := by
  have := h.drop xs.length
  rwa [List.drop_left] at this
theorem Lay.at0 {w : World} {b off : Nat} {x : Value} {xs : List Value} (h : Lay w b off (x :: xs)) : w.cell? ⟨b, off, none⟩ = some x := h 0 x rfl
theorem Lay.tail {w : World} {b off : Nat} {x : Value} {xs : List Value} (h : Lay w b off (x :: xs)) : Lay w b (off + 1) xs := h.drop 1

theorem flat_length {α : Type} {k : Nat} {enc : α → List Value} (hk : ∀ a, (enc a).length = k) (l : List α) : (l.flatMap enc).length = l.length * k := by
  induction l with
  | nil => simp
  | cons a l ih => simp only [List.flatMap_cons, List.length_append, List.length_cons, ih, hk, Nat.add_mul]; omega
theorem flat_drop {α : Type} {k : Nat} {enc : α → List Value} (hk : ∀ a, (enc a).length = k) : ∀ (l : List α) (i : Nat), (l.flatMap enc).drop (i * k) = (l.drop i).flatMap enc
  | [], i => by simp
  | a :: l, 0 => by simp
  | a :: l, i + 1 => by
    have h1 : (i + 1) * k = (enc a).length + i * k := by rw [hk, Nat.add_mul]; omega
    rw [List.flatMap_cons, h1, List.drop_append, List.drop_succ_cons]
    rw [List.drop_of_length_le (Nat.le_add_right _ _), List.nil_append, Nat.add_sub_cancel_left]
    exact flat_drop hk l i
theorem flat_take {α : Type} {k : Nat} {enc : α → List Value} (hk : ∀ a, (enc a).length = k) : ∀ (l : List α) (i : Nat), (l.flatMap enc).take (i * k) = (l.take i).flatMap enc
  | [], i => by simp
  | a :: l, 0 => by simp
  | a :: l, i + 1 => by
    have h1 : (i + 1) * k = (enc a).length + i * k := by rw [hk, Nat.add_mul]; omega
    rw [List.flatMap_cons, h1, List.take_append, List.take_succ_cons, List.flatMap_cons]
    rw [List.take_of_length_le (Nat.le_add_right _ _), Nat.add_sub_cancel_left, flat_take hk l i]
/-- Element i of a row of elements. -/
theorem Lay.elem {α : Type} {k : Nat} {enc : α → List Value} (hk : ∀ a, (enc a).length = k) {w : World} {b off : Nat} {l : List α} (h : Lay w b off (l.flatMap enc)) (i : Nat) (hi : i < l.length) :
    Lay w b (off + i * k) (enc l[i]) := by
  have h1 := h.drop (i * k)
  rw [flat_drop hk, List.drop_eq_getElem_cons hi, List.flatMap_cons] at h1
  exact h1.left

/-- How a type's values lie: k cells each, each cell of one value. -/
structure EncOk {α : Type} (enc : α → List Value) (k : Nat) : Prop where
  len : ∀ a, (enc a).length = k
  one : ∀ a, ∀ u ∈ enc a, u.oneCell' = true

/-- A slice value v that reads as the list l, nil let in; what it leads to lies below block B. -/
def Sl {α : Type} (enc : α → List Value) (w : World) (B : Nat) (v : Value) (l : List α) : Prop :=
  ∃ A cap, v = .slice A l.length cap ∧ l.length ≤ cap ∧ cap ≤ maxLen ∧ (0 < l.length → ∃ b off, A = some ⟨b, off, none⟩ ∧ b < B ∧ Lay w b off (l.flatMap enc))

section
variable {α : Type} {enc : α → List Value} {k : Nat} {w w' : World} {B B' : Nat} {v : Value} {l : List α}
theorem Sl.nil : Sl enc w B (.slice none 0 0) [] := ⟨none, 0, rfl, Nat.le_refl _, by unfold maxLen; omega, fun h => absurd h (by simp)⟩
theorem Sl.keep (h : Sl enc w B v l) (hk : ∀ b, b < B → w'.heap[b]? = w.heap[b]?) : Sl enc w' B v l := by
  obtain ⟨A, cap, e, h1, h2, h3⟩ := h
  exact ⟨A, cap, e, h1, h2, fun hp => let ⟨b, off, e, hb, hl⟩ := h3 hp; ⟨b, off, e, hb, hl.of_heap (hk b hb)⟩⟩
theorem Sl.more (h : Sl enc w B v l) (hB : B ≤ B') : Sl enc w B' v l := by
  obtain ⟨A, cap, e, h1, h2, h3⟩ := h
  exact ⟨A, cap, e, h1, h2, fun hp => let ⟨b, off, e, hb, hl⟩ := h3 hp; ⟨b, off, e, Nat.lt_of_lt_of_le hb hB, hl⟩⟩
theorem Sl.below (h : Sl enc w B v l) (hb : Below B w w') : Sl enc w' B v l := h.keep fun b hlt => hb.block b hlt
theorem Sl.drewN (h : Sl enc w B v l) (n : Nat) : Sl enc (w.drewN n) B v l := h
theorem Sl.pre {A : Option Addr} {n c : Nat} (C : EncOk enc k) (h : Sl enc w B (.slice A l.length c) l) (hn : n ≤ l.length) : Sl enc w B (.slice A n c) (l.take n) := by
  obtain ⟨A', cap, e, h1, h2, h3⟩ := h
  injection e with e1 e2 e3
  subst e1; subst e3
  have hl : (l.take n).length = n := by simp; omega
  refine ⟨A, c, by rw [hl], by rw [hl]; omega, h2, fun hp => ?_⟩
  obtain ⟨b, off, e, hb, hc⟩ := h3 (by omega)
  exact ⟨b, off, e, hb, by rw [← flat_take C.len]; exact hc.take _⟩
theorem Sl.suf {A : Addr} {n c : Nat} (C : EncOk enc k) (h : Sl enc w B (.slice (some A) l.length c) l) (hn : n ≤ l.length) : Sl enc w B (.slice (some (if c = n then A else A.add (n * k))) (l.length - n) (c - n)) (l.drop n) := by
  obtain ⟨A', cap, e, h1, h2, h3⟩ := h
  injection e with e1 e2 e3
  subst e1; subst e3
  have hl : (l.drop n).length = l.length - n := by simp
  refine ⟨_, c - n, by rw [hl], by rw [hl]; omega, by omega, fun hp => ?_⟩
  obtain ⟨b, off, e, hb, hc⟩ := h3 (by omega)
  obtain rfl : A = _ := Option.some.inj e
  have hadd : (⟨b, off, none⟩ : Addr).add (n * k) = ⟨b, off + n * k, none⟩ := by unfold Addr.add; split <;> simp_all
  rw [if_neg (by omega), hadd]
  exact ⟨b, off + n * k, rfl, hb, by rw [← flat_drop C.len]; exact hc.drop _⟩
/-- The two forms in which a walk meets 's[n:]'. -/
theorem Sl.suf_full {b off n c : Nat} (C : EncOk enc k) (h : Sl enc w B (.slice (some ⟨b, off, none⟩) l.length c) l) (hn : n ≤ l.length) (hc : c = n) : Sl enc w B (.slice (some ⟨b, off, none⟩) (l.length - n) 0) (l.drop n) := by
  have h1 := h.suf C hn
  rw [if_pos hc, show c - n = 0 by omega] at h1
  exact h1
theorem Sl.suf_rest {b off n c : Nat} (C : EncOk enc k) (h : Sl enc w B (.slice (some ⟨b, off, none⟩) l.length c) l) (hn : n ≤ l.length) (hc : ¬ c = n) : Sl enc w B (.slice (some ⟨b, off + n * k, none⟩) (l.length - n) (c - n)) (l.drop n) := by
  have h1 := h.suf C hn
  have hadd : (⟨b, off, none⟩ : Addr).add (n * k) = ⟨b, off + n * k, none⟩ := by unfold Addr.add; split <;> simp_all
  rw [if_neg hc, hadd] at h1
  exact h1
theorem Sl.len (h : Sl enc w B v l) : l.length ≤ maxLen := let ⟨_, _, _, h1, h2, _⟩ := h; Nat.le_trans h1 h2
/-- What the call owns reads as a slice. -/
theorem Sl.of_own {base : Nat} {e : TypeId} {k : Nat} (h : w.ownsRow base e k v l.length (l.flatMap enc)) : Sl enc w w.heap.size v l := by
  rcases h.2 with ⟨rfl, h0⟩ | ⟨g, cap, cur, rfl, _, hg, h1, h2, _⟩
  · have : l = [] := List.eq_nil_of_length_eq_zero h0
    subst this
    exact Sl.nil
  · refine ⟨_, cap, rfl, h1, h2, fun hp => ⟨g, 0, rfl, (Array.getElem?_eq_some_iff.1 hg).1, fun j u hu => ?_⟩⟩
    have := h.cells (g := g) rfl j u hu
    have hadd : (⟨g, 0, none⟩ : Addr).add j = ⟨g, 0 + j, none⟩ := by unfold Addr.add; split <;> simp_all
    rwa [hadd] at this
end

/-- Block g is just the cells cs of element type t; none is frozen. -/
def Blk (w : World) (g : Nat) (t : TypeId) (cs : Array Value) : Prop := w.heap[g]? = some (.cells cs t (0, 0))

section
variable {w w' : World} {g : Nat} {t : TypeId} {cs : Array Value}
theorem Blk.lt (h : Blk w g t cs) : g < w.heap.size := (Array.getElem?_eq_some_iff.1 h).1
theorem Blk.cell (h : Blk w g t cs) (i : Nat) : w.cell? ⟨g, i, none⟩ = cs[i]? := cell_of_row w g i cs t (0, 0) h
theorem Blk.frozen (h : Blk w g t cs) (i : Nat) : w.frozen? ⟨g, i, none⟩ = false := by
  unfold Blk at h
  simp [World.frozen?, h]
theorem Blk.new (w : World) (t : TypeId) (cs : Array Value) : Blk (w.alloc (.cells cs t)) w.heap.size t cs := heap_alloc_new w _
theorem Blk.drewN (h : Blk w g t cs) (n : Nat) : Blk (w.drewN n) g t cs := h
theorem Blk.alloc (h : Blk w g t cs) (o : Obj) : Blk (w.alloc o) g t cs := (Below.heap_alloc w o g h.lt).trans h
theorem Blk.put (h : Blk w g t cs) (i : Nat) (u : Value) : Blk (w.setCell ⟨g, i, none⟩ u) g t (cs.setIfInBounds i u) := by
  unfold Blk at h ⊢
  simp [World.setCell, Array.getElem?_modify, h]
theorem Blk.far (h : Blk w g t cs) {p : Addr} (hp : g ≠ p.block) (u : Value) : Blk (w.setCell p u) g t cs := (Below.heap_setCell w p u g hp).trans h
theorem Blk.below {B : Nat} (h : Blk w g t cs) (hb : Below B w w') (hg : g < B) : Blk w' g t cs := (hb.block g hg).trans h
theorem Blk.grown {row : Option Nat} (h : Blk w g t cs) (hb : w.grownBy w' row) (hg : some g ≠ row) : Blk w' g t cs := (hb.block g h.lt hg).trans h
theorem Blk.lay (h : Blk w g t cs) : Lay w g 0 cs.toList := fun j u hu => by
  rw [Nat.zero_add, h.cell]
  simpa using hu
theorem Blk.is {a : Value} (h : Blk w g t cs) (i : Nat) (hi : cs[i]? = some a) : w.cell? ⟨g, i, none⟩ = some a := (h.cell i).trans hi
theorem below_drewN {B : Nat} {a w : World} (h : Below B a w) (n : Nat) : Below B a (w.drewN n) := ⟨h.os, h.tape, h.output, h.size, h.block⟩

end

/-- What is known of a slice type t over elements e of k cells and so many bytes. -/
structure ElemOk (P : Program) (t e : TypeId) (k bytes : Nat) : Prop where
  und : P.underlying t = some (.slice e)
  inf : ∃ i z, P.info? e = some i ∧ i.zero = some z ∧ i.size = k ∧ i.bytes = bytes ∧ z.cells.size = k
  pos : 0 < k

theorem EncOk.flat {α : Type} {enc : α → List Value} {k : Nat} (h : EncOk enc k) (l : List α) : ∀ u ∈ l.flatMap enc, u.oneCell' = true := fun u hu => by
  obtain ⟨a, _, h2⟩ := List.mem_flatMap.1 hu
  exact h.one a u h2

/-- A slice that the call owns, from block base on: it may be appended to. -/
def Own {α : Type} (enc : α → List Value) (k : Nat) (e : TypeId) (w : World) (base : Nat) (v : Value) (l : List α) : Prop := w.ownsRow base e k v l.length (l.flatMap enc)

section
variable {α : Type} {enc : α → List Value} {k : Nat} {e : TypeId} {w w' : World} {base : Nat} {v : Value} {l : List α}
theorem Own.nil : Own enc k e w base (.slice none 0 0) [] := World.ownsRow_nil w base e k
theorem Own.sl (h : Own enc k e w base v l) : Sl enc w w.heap.size v l := Sl.of_own h
theorem Own.alloc (h : Own enc k e w base v l) (o : Obj) : Own enc k e (w.alloc o) base v l := World.ownsRow.alloc h o
theorem Own.drewN (h : Own enc k e w base v l) (n : Nat) : Own enc k e (w.drewN n) base v l := h
theorem Own.form (h : Own enc k e w base v l) : ∃ A cap, v = .slice A l.length cap := by
  rcases h.2 with ⟨rfl, h0⟩ | ⟨g, cap, cur, rfl, _⟩
  · exact ⟨none, 0, by rw [h0]⟩
  · exact ⟨_, _, rfl⟩
theorem Own.grown {row : Option Nat} (h : Own enc k e w base v l) (hg : w.grownBy w' row) (hne : v.ownBlock = none ∨ v.ownBlock ≠ row) : Own enc k e w' base v l := World.ownsRow.kept h hg hne
theorem Own.lt (h : Own enc k e w base v l) : ∀ g, v.ownBlock = some g → base ≤ g ∧ g < w.heap.size := World.ownsRow.lt h
theorem Own.keep (h : Own enc k e w base v l) (hk : ∀ b, v.ownBlock = some b → w'.heap[b]? = w.heap[b]?) : Own enc k e w' base v l := by
  refine ⟨h.1, ?_⟩
  rcases h.2 with hn | ⟨g, cap, cur, rfl, hb, hgg, rest⟩
  · exact .inl hn
  · exact .inr ⟨g, cap, cur, rfl, hb, (hk g rfl).trans hgg, rest⟩
theorem Own.more {base' : Nat} (h : Own enc k e w base v l) (hb : base' ≤ base) : Own enc k e w base' v l := by
  refine ⟨h.1, ?_⟩
  rcases h.2 with hn | ⟨g, cap, cur, rfl, hg, rest⟩
  · exact .inl hn
  · exact .inr ⟨g, cap, cur, rfl, Nat.le_trans hb hg, rest⟩
theorem Own.set (h : Own enc k e w base v l) {p : Addr} (u : Value) (hp : v.ownBlock ≠ some p.block) : Own enc k e (w.setCell p u) base v l :=
  h.keep fun b hb => Below.heap_setCell _ _ _ _ (fun e => hp (by rw [hb, e]))
theorem Own.ne_blk {g : Nat} {t : TypeId} {cs : Array Value} (h : Own enc k e w base v l) (hb : Blk w g t cs) (ht : e ≠ t) : v.ownBlock ≠ some g := fun hv => by
  rcases h.2 with ⟨rfl, _⟩ | ⟨g', cap, cur, rfl, _, hgg, _⟩
  · simp [Value.ownBlock] at hv
  · simp only [Value.ownBlock, Option.some.injEq] at hv
    subst hv
    rw [hb] at hgg
    simp only [Option.some.injEq, Obj.cells.injEq] at hgg
    exact ht hgg.2.1.symm

/-- A block that holds just the elements is a row of the call's own. -/
theorem Own.of_blk {g : Nat} {cs : Array Value} (h : Blk w g e cs) (hb : base ≤ g) (hc : cs.toList = l.flatMap enc) (hk : ∀ a, (enc a).length = k) (hm : l.length ≤ maxLen) : Own enc k e w base (.slice (some ⟨g, 0, none⟩) l.length l.length) l := by
  have hl : cs.size = l.length * k := by rw [← Array.length_toList, hc, flat_length hk]
  exact ⟨flat_length hk l, .inr ⟨g, l.length, cs, rfl, hb, h, Nat.le_refl _, hm, hl, by rw [← hl, ← Array.length_toList, List.take_length, hc]⟩⟩
/-- One element is appended: at the list of a plain region's operations. -/
theorem app_one {P : Program} {t : TypeId} {bytes : Nat} {ops : Array Oper} {rest : List Oper} {o : Oper} {a : Act} {Q : Exit → Act → World → Prop} (E : ElemOk P t e k bytes) (C : EncOk enc k) (hgd : o.guard = none) (s x : Operand)
    (ho : o.op = .call { callee := .builtin .append, args := #[s, x], argTypes := #[t, t] }) (hs : a.eval s = v) (hown : Own enc k e w base v l)
    (y : α) (g c : Nat) (hx : a.eval x = .slice (some ⟨g, 0, none⟩) 1 c) (hnew : Lay w g 0 (enc y)) (h63 : l.length + 1 ≤ maxLen) (hbytes : (l.length + 1) * bytes ≤ 140737488355328) (hbase : base ≤ w.heap.size)
    (h : ∀ g' cap w', Own enc k e w' base (.slice (some ⟨g', 0, none⟩) (l.length + 1) cap) (l ++ [y]) → w.grownBy w' v.ownBlock → (v.ownBlock = some g' ∨ g' = w.heap.size) → g' < w'.heap.size →
      wpList P ops Q rest (a.put o.dst (.slice (some ⟨g', 0, none⟩) (l.length + 1) cap)) w') : wpList P ops Q (o :: rest) a w := by
  obtain ⟨i, z, hi, hz, hsz, hby, hzs⟩ := E.inf
  refine wpList_append_lies w hgd s x t ho base e i z k bytes E.und hi hz hsz hby hzs E.pos v l.length _ hs hown ⟨g, 0, none⟩ 1 c (enc y) hx (by rw [C.len, Nat.one_mul]) (fun j u hu => ?_) (C.one y) (by omega) h63 hbytes hbase _ rfl (fun g' cap w' h1 h2 h3 h4 => h g' cap w' ?_ h2 h3 h4)
  · have := hnew j u hu
    have hadd : (⟨g, 0, none⟩ : Addr).add j = ⟨g, 0 + j, none⟩ := by unfold Addr.add; split <;> simp_all
    rwa [hadd]
  · unfold Own
    rw [List.length_append, List.flatMap_append]
    simpa using h1
/-- The same at a step of a region that draws its order. -/
theorem step_one {P : Program} {t : TypeId} {bytes : Nat} {ops : Array Oper} {o : Oper} {a : Act} {K : Act → World → Prop} {Q : Exit → Act → World → Prop} {Z : Prop} (E : ElemOk P t e k bytes) (C : EncOk enc k) (hgd : o.guard = none) (s x : Operand)
    (ho : o.op = .call { callee := .builtin .append, args := #[s, x], argTypes := #[t, t] }) (hs : a.eval s = v) (hown : Own enc k e w base v l)
    (y : α) (g c : Nat) (hx : a.eval x = .slice (some ⟨g, 0, none⟩) 1 c) (hnew : Lay w g 0 (enc y)) (h63 : l.length + 1 ≤ maxLen) (hbytes : (l.length + 1) * bytes ≤ 140737488355328) (hbase : base ≤ w.heap.size)
    (h : ∀ g' cap w', Own enc k e w' base (.slice (some ⟨g', 0, none⟩) (l.length + 1) cap) (l ++ [y]) → w.grownBy w' v.ownBlock → (v.ownBlock = some g' ∨ g' = w.heap.size) → g' < w'.heap.size →
      K (a.put o.dst (.slice (some ⟨g', 0, none⟩) (l.length + 1) cap)) w') : if Region.wanted o (yielded ops a.tmps) = true then Oper.wp P o a w K Q else Z := by
  obtain ⟨i, z, hi, hz, hsz, hby, hzs⟩ := E.inf
  refine step_append_lies w hgd s x t ho base e i z k bytes E.und hi hz hsz hby hzs E.pos v l.length _ hs hown ⟨g, 0, none⟩ 1 c (enc y) hx (by rw [C.len, Nat.one_mul]) (fun j u hu => ?_) (C.one y) (by omega) h63 hbytes hbase _ rfl (fun g' cap w' h1 h2 h3 h4 => h g' cap w' ?_ h2 h3 h4)
  · have := hnew j u hu
    have hadd : (⟨g, 0, none⟩ : Addr).add j = ⟨g, 0 + j, none⟩ := by unfold Addr.add; split <;> simp_all
    rwa [hadd]
  · unfold Own
    rw [List.length_append, List.flatMap_append]
    simpa using h1
end

/-- The address of 's[l:]', kept whole in a walk. -/
def cutA (A : Option Addr) (c l size : Nat) : Option Addr := if c = l then A else A.map (·.add (l * size))
theorem Sl.cut {α : Type} {enc : α → List Value} {k : Nat} {w : World} {B : Nat} {l : List α} {A : Option Addr} {n c : Nat} (C : EncOk enc k) (h : Sl enc w B (.slice A l.length c) l) (hn : n ≤ l.length) : Sl enc w B (.slice (cutA A c n k) (l.length - n) (c - n)) (l.drop n) := by
  cases A with
  | some a =>
    have h1 := h.suf C hn
    have e : cutA (some a) c n k = some (if c = n then a else a.add (n * k)) := by unfold cutA; split <;> rfl
    rw [e]
    exact h1
  | none =>
    obtain ⟨A', cap, e, h1, h2, h3⟩ := h
    injection e with e1 e2 e3
    subst e1; subst e3
    have h0 : l.length = 0 := by
      rcases Nat.eq_zero_or_pos l.length with h | h
      · exact h
      · obtain ⟨_, _, e, _⟩ := h3 h
        cases e
    have hl : l = [] := List.eq_nil_of_length_eq_zero h0
    subst hl
    have e : cutA none c n k = none := by unfold cutA; split <;> rfl
    rw [e]
    exact ⟨none, c - n, by simp, by simp, by omega, fun hp => by simp at hp⟩
theorem run_slice_lo {P : Program} {t e : TypeId} {size : Nat} (hu : P.underlying t = some (.slice e)) (hs : ∀ w, (sizeOf e).run P w = .ok size w) (w : World) (A : Option Addr) (n c j : Nat) (k : IntKind) (hj : j ≤ n) :
    (Instr.slice t (.slice A n c) (some (.int k (j : Int))) none none).run P w = .ok (.slice (cutA A c j size) (n - j) (c - j)) w := by
  have h1 : (0 : Int) ≤ (j : Int) ∧ (j : Int) ≤ (n : Int) := by omega
  simp [Instr.slice, run_underlying hu, Instr.sliceBounds, Instr.sliceBound, asIntOf, h1, hs, cutA, go_sem]
  intro h
  omega
theorem run_slice_hi {P : Program} {t e : TypeId} {size : Nat} (hu : P.underlying t = some (.slice e)) (hs : ∀ w, (sizeOf e).run P w = .ok size w) (w : World) (A : Option Addr) (n c j : Nat) (k : IntKind) (hj : j ≤ c) :
    (Instr.slice t (.slice A n c) none (some (.int k (j : Int))) none).run P w = .ok (.slice A j c) w := by
  have h1 : (0 : Int) ≤ (j : Int) ∧ (j : Int) ≤ (c : Int) := by omega
  simp [Instr.slice, run_underlying hu, Instr.sliceBounds, Instr.sliceBound, asIntOf, h1, hs, go_sem]
  intro h
  omega

theorem take_eq_of_len {α : Type} {l m : List α} (h : l.length = m.length) (e : l.take l.length = m.take l.length) : l = m := by
  rw [List.take_length, h, List.take_length] at e
  exact e
theorem take_step {α : Type} {l m : List α} {k : Nat} (h1 : k < l.length) (h2 : k < m.length) (e : l.take k = m.take k) : l.take (k + 1) = m.take (k + 1) ↔ l[k] = m[k] := by
  rw [List.take_succ_eq_append_getElem h1, List.take_succ_eq_append_getElem h2, e]
  simp only [List.append_cancel_left_eq, List.cons.injEq, and_true]
theorem ret_bool {a b : Bool} (h : a = b) : Ending.returned (.bool a) = .returned (.bool b) := by rw [h]
/-- min and max of two, kept whole in a walk. -/
def imin (a b : Int) : Int := if b < a then b else a
def imax (a b : Int) : Int := if a < b then b else a
theorem imin_eq (a b : Int) : imin a b = min a b := by unfold imin; split <;> omega
theorem imax_eq (a b : Int) : imax a b = max a b := by unfold imax; split <;> omega
@[go_sem high] theorem run_imin {P : Program} (w : World) (ts : Array TypeId) (t : TypeId) (k k' : IntKind) (x y : Int) : (Builtin.min_ ts t #[.int k x, .int k' y]).run P w = .ok (.int k (imin x y)) w := by
  simp [Builtin.min_, Builtin.min2, imin]
@[go_sem high] theorem run_imax {P : Program} (w : World) (ts : Array TypeId) (t : TypeId) (k k' : IntKind) (x y : Int) : (Builtin.max_ ts t #[.int k x, .int k' y]).run P w = .ok (.int k (imax x y)) w := by
  simp [Builtin.max_, Builtin.max2, imax]

end Go.Proofs.YtldjgpnbkbmgoaaGreatDoor
