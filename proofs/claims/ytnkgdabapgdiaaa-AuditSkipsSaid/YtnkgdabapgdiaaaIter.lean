/-
  The two methods of a trail that range over a function: Own and Count, and the iterator that they range over. Conditions: at most 1,000 events.
-/
import Derived.Test.YtnkgdabapgdiaaaTrail
import Derived.RangeFuncNested
import Derived.RangeFuncLeaves
import Derived.Shelf.Abstract
import Derived.OwnWalkIn
import Derived.TacticsInMore
import Derived.LoopNIn
import Derived.LoopIn
import Derived.BigFrameIn
namespace Go.Proofs.Ytnkgdabapgdiaaa
open Go.RowKit Go.Shelf
attribute [local go_sem] Oper.semAt_some

/-- Of blocks with S nothing has turned. -/
def KS (S : Nat → Prop) (W W' : World) : Prop := ∀ k, S k → W'.heap[k]? = W.heap[k]?
theorem KS.refl (S : Nat → Prop) (W : World) : KS S W W := fun _ _ => rfl
theorem KS.trans {S : Nat → Prop} {A B C : World} (h : KS S A B) (k : KS S B C) : KS S A C := fun i hi => (k i hi).trans (h i hi)
theorem KS.blk {S : Nat → Prop} {W W' : World} {g : Nat} {t : TypeId} {cs : Array Value} (h : KS S W W') (hg : S g) (hb : Blk W g t cs) : Blk W' g t cs := (h g hg).trans hb
theorem KS.alloc {S : Nat → Prop} {W : World} (o : Obj) (hS : ∀ k, S k → k < W.heap.size) : KS S W (W.alloc o) := fun k hk => Below.heap_alloc W o k (hS k hk)

theorem Blk.from_ {B : Nat} {W W' : World} {row : Option Nat} {g : Nat} {t : TypeId} {cs : Array Value} (h : Blk W g t cs) (hg : W.grownBy W' row) (hr : ∀ r, row = some r → B ≤ r ∧ ∃ o : Obj, W.heap[r]? = some o ∧ o.isCells = false) : Blk W' g t cs :=
  h.grown hg fun e => by
    obtain ⟨_, o, ho, hc⟩ := hr g e.symm
    unfold Blk at h
    rw [h] at ho
    cases ho
    cases hc
theorem Own.from_ {α : Type} {enc : α → List Value} {k : Nat} {e : TypeId} {base B : Nat} {v : Value} {l : List α} {W W' : World} {row : Option Nat} (h : Own enc k e W base v l) (hg : W.grownBy W' row)
    (hr : ∀ r, row = some r → B ≤ r ∧ ∃ o : Obj, W.heap[r]? = some o ∧ o.isCells = false) : Own enc k e W' base v l := by
  refine h.grown hg ?_
  cases hv : v.ownBlock with
  | none => exact .inl rfl
  | some g =>
    right
    intro er
    obtain ⟨_, o, ho, hc⟩ := hr g er.symm
    rcases h.2 with ⟨rfl, _⟩ | ⟨g', cap, cur, rfl, _, hgg, _⟩
    · simp [Value.ownBlock] at hv
    · simp only [Value.ownBlock, Option.some.injEq] at hv
      subst hv
      rw [hgg] at ho
      cases ho
      cases hc

theorem Own.cells_row {α : Type} {enc : α → List Value} {k : Nat} {e : TypeId} {base : Nat} {v : Value} {l : List α} {W : World} (h : Own enc k e W base v l) {j : Nat} {o : Obj} (hj : v.ownBlock = some j) (ho : W.heap[j]? = some o) : o.isCells = true := by
  rcases h.2 with ⟨rfl, _⟩ | ⟨g', cap, cur, rfl, _, hgg, _⟩
  · simp [Value.ownBlock] at hj
  · simp only [Value.ownBlock, Option.some.injEq] at hj
    subst hj
    rw [hgg] at ho
    cases ho
    rfl

set_option maxHeartbeats 400000 in
theorem of_in (F : Fence) (n : Nat) (h24 : F.fn 24) (hro : F.round = none) (p : Value) (user : Int) (hp : ∃ a, p = .pointer a) (w : World) :
    CallsIn F n Try.prog 24 #[p, .int .i64 user] w fun e w' => e = .returned (.func (.func 26) #[] #[.pointer (some ⟨w.heap.size, 0, none⟩), .pointer (some ⟨w.heap.size + 1, 0, none⟩)]) ∧
      w' = (w.alloc (.cells #[p] 24)).alloc (.cells #[.int .i64 user] 3) := by
  obtain ⟨a, rfl⟩ := hp
  refine callsIn_of_wp Try.func24 rfl h24 ?_ hro
  simp only [Try.ntmps24, List.size_toArray, List.length_cons, List.length_nil, Nat.reduceAdd, Nat.reduceSub, Array.replicate_succ, Array.replicate_zero, List.push_toArray, List.append_toArray, List.nil_append, List.cons_append]
  gi_wp2
  go_ret
  exact ⟨rfl, rfl⟩

set_option maxRecDepth 100000 in
set_option maxHeartbeats 1000000 in
theorem of1_in (F : Fence) (n : Nat) (h26 : F.fn 26) (hro : F.round = none) (hn : 1 ≤ n) (lp t1 t2 : Nat) (S : Nat → Prop) (base b : Nat) (l : List Ev) (past user : Int) (hlen : l.length ≤ 1000) (J Jx : List Ev → World → Prop)
    (W : World) (hJ : ∀ pre w1 o, J pre w1 → J pre (w1.alloc o))
    (hY : ∀ pre x W, J pre W → pre.length < l.length → YieldAt F (n - 1) Try.prog lp #[evV x] W fun e W' =>
      (e = .returned (.bool true) ∧ J (pre ++ [x]) W' ∧ (W.heap.size ≤ W'.heap.size ∧ KS S W W')) ∨ (e = .returned (.bool false) ∧ Jx (pre ++ [x]) W'))
    (hS : ∀ k, S k → k < W.heap.size) (hb1 : Blk W t1 24 #[.pointer (some ⟨b, 0, none⟩)]) (hb2 : Blk W t2 3 #[.int .i64 user]) (hS2 : S t2) (hSb : ∀ k, k < base → S k)
    (s : Value) (ht : Blk W b 52 #[s, .int .i64 past]) (hsl : Sl evC W base s l) (h0 : J [] W) :
    CallsIn F n Try.prog 26 #[.func (.yield lp) #[] #[], .pointer (some ⟨t1, 0, none⟩), .pointer (some ⟨t2, 0, none⟩)] W fun e W' => (∃ v, e = .returned v) ∧
      ((∃ ys, ys = ownL l user ∧ J ys W') ∨ (∃ pre, pre <+: ownL l user ∧ Jx pre W')) := by
  obtain ⟨A, c, rfl, hc1, hc2, hc3⟩ := hsl
  unfold maxLen at hc2
  have c1 := hb1.is 0 rfl
  have c3 := ht.is 0 rfl
  refine callsIn_of_wp Try.func26 rfl h26 ?_ hro
  simp only [Try.ntmps26, List.size_toArray, List.length_cons, List.length_nil, Nat.reduceAdd, Nat.reduceSub, Array.replicate_succ, Array.replicate_zero, List.push_toArray, List.append_toArray, List.nil_append, List.cons_append]
  gi_wp2
  gi_loopw [13] (fun i wr => ∃ k : Nat, k ≤ l.length ∧ i = .int .i64 k ∧ J (ownL (l.take k) user) wr ∧ W.heap.size ≤ wr.heap.size ∧ KS S W wr) (fun i _ => (l.length - intOf i).toNat)
  case atStart => exact ⟨0, Nat.zero_le _, rfl, by simpa [ownL] using h0, Nat.le_refl _, KS.refl _ _⟩
  case round =>
    obtain ⟨k, hk, rfl, hjk, hsz, hks⟩ := hrel
    by_cases hlt : k < l.length
    · obtain ⟨g, off, rfl, hg, hl⟩ := hc3 (by omega)
      obtain ⟨x0, x1, x2, x3⟩ := ((hl.of_heap (hks g (hSb g hg))).elem evC_len k hlt).ev
      have hu := (hks.blk hS2 hb2).is 0 rfl
      have hu2 : (wr.alloc (.cells (evA l[k]) 33)).cell? ⟨t2, 0, none⟩ = some (.int .i64 user) := ((hks.blk hS2 hb2).alloc _).is 0 rfl
      have hw := Blk.new wr 33 (evA l[k])
      have e0 := hw.is 0 rfl
      have e1 := hw.is 1 rfl
      have e2 := hw.is 2 rfl
      have e3 := hw.is 3 rfl
      have HJ := Lib.hid (hJ _ _ (.cells (evA l[k]) 33) hjk)
      have hll := ownL_len (l.take k) user
      have hll2 : (l.take k).length ≤ k := List.length_take_le _ _
      have hks' := Lib.hid (hks.trans (KS.alloc (.cells (evA l[k]) 33) (fun q hq => Nat.lt_of_lt_of_le (hS q hq) hsz)))
      have HY := Lib.hid (@ownL_yes l user k hlt)
      have HN := Lib.hid (@ownL_no l user k hlt)
      have HR := Lib.hid (hY (ownL (l.take k) user) l[k] (wr.alloc (.cells (evA l[k]) 33)) HJ.out (by omega))
      clear hl hks hjk c1 c3 hY hJ h0 hw
      cases hue : (l[k].user == user)
      · have hne := Lib.hid hue
        gi_wp2
        refine ⟨fun _ h => (nomatch h), ?_⟩
        gi_wp2
        go_roundw
        case rel =>
          have e := HN.out (by simpa using hne.out)
          exact ⟨k + 1, by omega, by go_num, by rw [e]; exact HJ.out, by simp; omega, hks'.out⟩
        case measure => simp [intOf]; omega
      · have hne := Lib.hid hue
        obtain ⟨fn, tmps, assign, body, hy, hR⟩ := HR.out
        have HR2 := Lib.hid hR
        clear hR HR
        gi_wp2
        refine HR2.out.mono ?_
        rintro e W3 (⟨rfl, hj3, hsz3, hk3⟩ | ⟨rfl, hjx⟩)
        · gi_wp2
          go_roundw
          case rel =>
            have e := HY.out (by simpa using hne.out)
            exact ⟨k + 1, by omega, by go_num, by rw [e]; exact hj3, by simp at hsz3; omega, hks'.out.trans hk3⟩
          case measure => simp [intOf]; omega
        · gi_wp2
          refine bodyPost_ret (results_none rfl _ _ _) rfl ?_
          have e := HY.out (by simpa using hne.out)
          refine ⟨⟨_, rfl⟩, .inr ⟨_, ?_, hjx⟩⟩
          rw [← e]
          unfold ownL
          exact (List.take_prefix (k + 1) l).filter _
    · obtain rfl : k = l.length := by omega
      rw [List.take_length] at hjk
      gi_wp2
      go_end0
      exact ⟨⟨_, rfl⟩, .inl ⟨_, rfl, hjk⟩⟩

theorem pageL_pre {pre xs : List Ev} {from_ most : Int} (h : pre <+: xs) (hm : most ≤ ((pageL pre from_ most).length : Int)) : pageL xs from_ most = pageL pre from_ most := by
  obtain ⟨r, rfl⟩ := h
  unfold pageL at hm ⊢
  split
  · rfl
  · rename_i h0
    rw [if_neg h0] at hm
    simp only [List.length_take, List.length_drop] at hm
    by_cases hz : most ≤ 0
    · rw [show most.toNat = 0 by omega]; simp
    · rw [List.drop_append_of_le_length (by omega), List.take_append_of_le_length (by simp; omega)]
theorem pageL_snoc_yes {pre : List Ev} {x : Ev} {from_ most : Int} (h0 : 0 ≤ from_) (h1 : from_ ≤ pre.length) (h2 : ((pageL pre from_ most).length : Int) < most) : pageL (pre ++ [x]) from_ most = pageL pre from_ most ++ [x] := by
  have := @pageL_yes (pre ++ [x]) from_ most pre.length (by simp) h0 h1 (by simpa using h2)
  rw [List.take_of_length_le (by simp), List.take_left] at this
  simpa using this
theorem pageL_snoc_no {pre : List Ev} {x : Ev} {from_ most : Int} (h : (pre.length : Int) < from_) : pageL (pre ++ [x]) from_ most = pageL pre from_ most := by
  have := @pageL_no (pre ++ [x]) from_ most pre.length (by simp) (.inl h)
  rw [List.take_of_length_le (by simp), List.take_left] at this
  exact this

theorem six_blocks (w : World) (c0 c1 c2 c3 c4 c5 : Array Value) (t0 t1 t2 t3 t4 t5 : TypeId) (W : World)
    (h : (((((w.alloc (.cells c0 t0)).alloc (.cells c1 t1)).alloc (.cells c2 t2)).alloc (.cells c3 t3)).alloc (.cells c4 t4)).alloc (.cells c5 t5) = W) :
    Blk W w.heap.size t0 c0 ∧ Blk W (w.heap.size + 1) t1 c1 ∧ Blk W (w.heap.size + 1 + 1) t2 c2 ∧ Blk W (w.heap.size + 1 + 1 + 1) t3 c3 ∧ Blk W (w.heap.size + 1 + 1 + 1 + 1) t4 c4 ∧ Blk W (w.heap.size + 1 + 1 + 1 + 1 + 1) t5 c5 ∧ W.heap.size = w.heap.size + 6 ∧ Below w.heap.size w W := by
  subst h
  refine ⟨?_, ?_, ?_, ?_, ?_, ?_, by simp, ?_⟩
  · exact (((((Blk.new w t0 c0).alloc _).alloc _).alloc _).alloc _).alloc _
  · have := ((((Blk.new (w.alloc (.cells c0 t0)) t1 c1).alloc (.cells c2 t2)).alloc (.cells c3 t3)).alloc (.cells c4 t4)).alloc (.cells c5 t5)
    simpa using this
  · have := (((Blk.new ((w.alloc (.cells c0 t0)).alloc (.cells c1 t1)) t2 c2).alloc (.cells c3 t3)).alloc (.cells c4 t4)).alloc (.cells c5 t5)
    simpa using this
  · have := ((Blk.new (((w.alloc (.cells c0 t0)).alloc (.cells c1 t1)).alloc (.cells c2 t2)) t3 c3).alloc (.cells c4 t4)).alloc (.cells c5 t5)
    simpa using this
  · have := (Blk.new ((((w.alloc (.cells c0 t0)).alloc (.cells c1 t1)).alloc (.cells c2 t2)).alloc (.cells c3 t3)) t4 c4).alloc (.cells c5 t5)
    simpa using this
  · have := Blk.new (((((w.alloc (.cells c0 t0)).alloc (.cells c1 t1)).alloc (.cells c2 t2)).alloc (.cells c3 t3)).alloc (.cells c4 t4)) t5 c5
    simpa using this
  · exact ((((((Below.refl _ w).alloc (Nat.le_refl _) _).alloc (by simp) _).alloc (by simp; omega) _).alloc (by simp; omega) _).alloc (by simp; omega) _).alloc (by simp; omega) _

/-- What an iterator over a trail asks to be kept. -/
def KP (S : Nat → Prop) (W W' : World) : Prop := W.heap.size ≤ W'.heap.size ∧ KS S W W'
theorem KP.t {S : Nat → Prop} {A B C : World} (h : KP S A B) (k : KP S B C) : KP S A C := ⟨Nat.le_trans h.1 k.1, h.2.trans k.2⟩
theorem KP.b {S : Nat → Prop} {w : World} (hS : ∀ k, S k → k < w.heap.size) (W : World) (l : Nat) (o o' : Obj) (hl : w.heap.size ≤ l) (_ : W.heap[l]? = some o) (_ : o.isCells = false) (_ : o.isWalk = false) : KP S W (W.putObj l o') :=
  ⟨(grownBy_putObj' W l o').size, fun k hk => World.putObj_heap_other (by have := hS k hk; omega)⟩
theorem KP.alloc {S : Nat → Prop} {W : World} (o : Obj) (hS : ∀ k, S k → k < W.heap.size) : KP S W (W.alloc o) := ⟨by simp, KS.alloc o hS⟩

theorem of_stops (F : Fence) (n : Nat) (h26 : F.fn 26) (hro : F.round = none) (hn : 1 ≤ n) (t1 t2 : Nat) (S : Nat → Prop) (base b : Nat) (l : List Ev) (past user : Int) (hlen : l.length ≤ 1000) (W : World)
    (hS : ∀ k, S k → k < W.heap.size) (hb1 : Blk W t1 24 #[.pointer (some ⟨b, 0, none⟩)]) (hb2 : Blk W t2 3 #[.int .i64 user]) (hS1 : S t1) (hS2 : S t2) (hSb : ∀ k, k < base → S k) (hbb : b < base)
    (s : Value) (ht : Blk W b 52 #[s, .int .i64 past]) (hsl : Sl evC W base s l) :
    SeqStopsK F n Try.prog 26 #[.pointer (some ⟨t1, 0, none⟩), .pointer (some ⟨t2, 0, none⟩)] (fun x : Ev => #[evV x]) (KP S) (fun ys => ys = ownL l user) (fun pre => pre <+: ownL l user) l.length W :=
  fun lp J Jx W1 hW hJ _ hY h0 =>
    of1_in F n h26 hro hn lp t1 t2 S base b l past user hlen J Jx W1 (fun _ _ o h => hJ _ _ _ none h (World.grownBy_alloc _ o none) (fun r e => by cases e)) hY (fun k hk => Nat.lt_of_lt_of_le (hS k hk) hW.size)
      (hb1.below hW (hS _ hS1)) (hb2.below hW (hS _ hS2)) hS2 hSb s (ht.below hW (hS _ (hSb _ hbb))) (hsl.keep fun k hk => hW.block k (hS k (hSb k hk))) h0

/-- The invariant of Own's loop. -/
def OI (w : World) (B : Nat) (from_ most : Int) (pre : List Ev) (W : World) : Prop :=
  ∃ A c, Blk W (w.heap.size + 1 + 1) 22 #[.slice A (pageL pre from_ most).length c] ∧ Own evC 4 33 W B (.slice A (pageL pre from_ most).length c) (pageL pre from_ most) ∧ Blk W (w.heap.size + 1 + 1 + 1) 3 #[.int .i64 pre.length] ∧
    Blk W w.heap.size 3 #[.int .i64 from_] ∧ Blk W (w.heap.size + 1) 3 #[.int .i64 most] ∧ Below w.heap.size w W ∧ B ≤ W.heap.size
theorem OI.from_ (w : World) (B : Nat) (hB : w.heap.size ≤ B) (from_ most : Int) : OwnFrom B (OI w B from_ most) := by
  intro pre X Y row ⟨A, c, h1, h2, h3, h4, h5, h6, h7⟩ hg hr
  exact ⟨A, c, h1.from_ hg hr, h2.from_ hg hr, h3.from_ hg hr, h4.from_ hg hr, h5.from_ hg hr, h6.grown hg h6.size (fun k e => Nat.le_trans hB (hr k e).1), Nat.le_trans h7 hg.size⟩
theorem OI.alloc {w : World} {B : Nat} {from_ most : Int} {pre : List Ev} {W : World} (h : OI w B from_ most pre W) (o : Obj) : OI w B from_ most pre (W.alloc o) := by
  obtain ⟨A, c, h1, h2, h3, h4, h5, h6, h7⟩ := h
  exact ⟨A, c, h1.alloc o, h2.alloc o, h3.alloc o, h4.alloc o, h5.alloc o, h6.alloc h6.size o, by simp; omega⟩

/-- What a loop over a trail's iterator leans on. -/
def IterOk (F : Fence) (n : Nat) (w : World) (pa : Option Addr) (user : Int) (xs : List Ev) (N : Nat) : Prop :=
  ∀ (W0 : World) (t1 t2 : Nat), Below w.heap.size w W0 → Blk W0 t1 24 #[.pointer pa] → Blk W0 t2 3 #[.int .i64 user] → w.heap.size ≤ t1 → t1 < W0.heap.size → w.heap.size ≤ t2 → t2 < W0.heap.size →
    SeqStopsK F n Try.prog 26 #[.pointer (some ⟨t1, 0, none⟩), .pointer (some ⟨t2, 0, none⟩)] (fun x : Ev => #[evV x]) (KP (fun k => k < w.heap.size ∨ k = t1 ∨ k = t2)) (fun ys => ys = xs) (fun pre => pre <+: xs) N W0
theorem iter_trail (F : Fence) (n : Nat) (h26 : F.fn 26) (hro : F.round = none) (hn : 1 ≤ n) (w : World) (base b : Nat) (l : List Ev) (past user : Int) (hlen : l.length ≤ 1000) (h : Trl w base b l past) : IterOk F n w (some ⟨b, 0, none⟩) user (ownL l user) l.length := by
  intro W0 t1 t2 hB0 b4 b5 k1 k2 k3 k4
  obtain ⟨s, ht, hbb, hown⟩ := h
  have hs := Own.sl hown
  have hz := hB0.size
  exact of_stops F n h26 hro hn t1 t2 (fun k => k < w.heap.size ∨ k = t1 ∨ k = t2) w.heap.size b l past user hlen W0
    (fun k hk => by omega) b4 b5 (.inr (.inl rfl)) (.inr (.inr rfl)) (fun k hk => .inl hk) ht.lt s (ht.below hB0 ht.lt) (hs.below hB0)
set_option maxHeartbeats 1000000 in
theorem iter_nil (F : Fence) (n : Nat) (h26 : F.fn 26) (hro : F.round = none) (w : World) (user : Int) : IterOk F n w none user [] 0 := by
  intro W0 t1 t2 hB0 b4 b5 k1 k2 k3 k4 lp J Jx W hW hJ hJx hY h0
  have c1 := (b4.below hW k2).is 0 rfl
  refine callsIn_of_wp Try.func26 rfl h26 ?_ hro
  simp only [Try.ntmps26, List.size_toArray, List.length_cons, List.length_nil, Nat.reduceAdd, Nat.reduceSub, Array.replicate_succ, Array.replicate_zero, List.push_toArray, List.append_toArray, List.nil_append, List.cons_append]
  gi_wp2
  refine bodyPost_ret (results_none rfl _ _ _) rfl ?_
  exact ⟨⟨_, rfl⟩, .inl h0⟩

set_option maxRecDepth 100000 in
set_option maxHeartbeats 2000000 in
theorem own_gen (F : Fence) (n : Nat) (h12 : F.fn 12) (h24 : F.fn 24) (h26 : F.fn 26) (hro : F.round = none) (hn : 3 ≤ n) (w : World) (pa : Option Addr) (xs : List Ev) (N : Nat) (user from_ most : Int) (hlen : N ≤ 1000)
    (hseq : IterOk F (n - 1) w pa user xs N) : CallsIn F n Try.prog 12 #[.pointer pa, .int .i64 user, .int .i64 from_, .int .i64 most] w (GivesEv w (pageL xs from_ most)) := by
  have h1 : 1 ≤ n := by omega
  by_cases hf : from_ < 0
  · refine callsIn_of_wp Try.func12 rfl h12 ?_ hro
    simp only [Try.ntmps12, List.size_toArray, List.length_cons, List.length_nil, Nat.reduceAdd, Nat.reduceSub, Array.replicate_succ, Array.replicate_zero, List.push_toArray, List.append_toArray, List.nil_append, List.cons_append]
    gi_wp2
    go_ret
    refine ⟨_, rfl, ?_, ((((Below.refl _ w).alloc (Nat.le_refl _) _).alloc (by simp) _).alloc (by simp; omega) _)⟩
    unfold pageL
    rw [if_pos hf]
    exact Own.nil
  · refine callsIn_of_wp_marks Try.func12 rfl h12 ?_ hro
    simp only [Try.ntmps12, List.size_toArray, List.length_cons, List.length_nil, Nat.reduceAdd, Nat.reduceSub, Array.replicate_succ, Array.replicate_zero, List.push_toArray, List.append_toArray, List.nil_append, List.cons_append]
    gi_wp2_with (gi_at_call 24; refine (of_in F (n - 1) h24 hro _ _ ⟨_, rfl⟩ _).mono ?_; rintro e w' ⟨rfl, rfl⟩)
    generalize hW : (((((w.alloc (Obj.cells #[Value.int IntKind.i64 from_] 3)).alloc (Obj.cells #[Value.int IntKind.i64 most] 3)).alloc (Obj.cells #[Value.slice none 0 0] 22)).alloc (Obj.cells #[Value.int IntKind.i64 0] 3)).alloc (Obj.cells #[Value.pointer pa] 24)).alloc (Obj.cells #[Value.int IntKind.i64 user] 3) = W0
    obtain ⟨b0, b1, b2, b3, b4, b5, hz, hB0⟩ := six_blocks _ _ _ _ _ _ _ _ _ _ _ _ _ _ hW
    have hzle : w.heap.size + 6 ≤ W0.heap.size := by omega
    clear hz hW
    refine wpIn_rangeFunc_ownH hro h1 (gf := 26) (lb := #[.pointer (some ⟨w.heap.size + 1 + 1 + 1 + 1, 0, none⟩), .pointer (some ⟨w.heap.size + 1 + 1 + 1 + 1 + 1, 0, none⟩)]) rfl h26 (enters_of Try.func26 (by kernel_rfl) rfl)
      (hseq W0 (w.heap.size + 1 + 1 + 1 + 1) (w.heap.size + 1 + 1 + 1 + 1 + 1) hB0 b4 b5 (by omega) (by omega) (by omega) (by omega))
      (fun h k => h.t k) (KP.b (fun k hk => by omega)) (Below.refl _ _) (fun _ => rfl)
      (OI w W0.heap.size from_ most) (fun c q W => c = .exit 0 ∧ ∃ pre x, q = pre ++ [x] ∧ most ≤ ((pageL pre from_ most).length : Int) ∧ OI w W0.heap.size from_ most pre W)
      (OI.from_ w _ hB0.size from_ most) (fun c q X Y row hs hg hr => by obtain ⟨e, pre, x, e1, e2, e3⟩ := hs; exact ⟨e, pre, x, e1, e2, OI.from_ w _ hB0.size from_ most pre X Y row e3 hg hr⟩)
      ⟨none, 0, by simpa [pageL] using b2, by simpa [pageL] using Own.nil, b3, b0, b1, hB0, Nat.le_refl _⟩
      (fun x a' W => ∃ Bx, W0.heap.size ≤ Bx ∧ Blk W Bx 33 (evA x) ∧ a' = { tmps := #[.pointer pa, .int .i64 user, .int .i64 from_, .int .i64 most, undef, undef, .pointer (some ⟨w.heap.size, 0, none⟩), .pointer (some ⟨w.heap.size + 1, 0, none⟩), .slice none 0 0, .pointer (some ⟨w.heap.size + 1 + 1, 0, none⟩), .pointer (some ⟨w.heap.size + 1 + 1 + 1, 0, none⟩), .pointer (some ⟨Bx, 0, none⟩), .int .i64 from_, .bool false, .pointer pa, .int .i64 user, .func (.func 26) #[] #[.pointer (some ⟨w.heap.size + 1 + 1 + 1 + 1, 0, none⟩), .pointer (some ⟨w.heap.size + 1 + 1 + 1 + 1 + 1, 0, none⟩)], evV x, undef, undef, undef, undef, undef, undef, undef, undef, undef, undef, undef, undef, undef, undef], defers := [] })
      (fun x a' _ X Y row hs hg hr => by obtain ⟨Bx, e1, e2, e3⟩ := hs; exact ⟨Bx, e1, e2.from_ hg hr, e3⟩)
      ?assign ?body ?done ?stop
    case assign =>
      rintro lp pre x W K hI hK
      have hzW : W0.heap.size ≤ W.heap.size := by obtain ⟨_, _, _, _, _, _, _, _, h⟩ := hI; exact h
      gi_wp2
      exact hK _ _ ((KeepsOthers.alloc _ _).from _) (KP.alloc _ (fun k hk => by omega)) (hI.alloc _) ⟨W.heap.size, hzW, Blk.new W 33 _, rfl⟩
    case body =>
      rintro lp pre x a' W hl - ⟨A, c, k1, k2, k3, k4, k5, k6, k7⟩ ⟨Bx, hBx, kx, rfl⟩ hlt
      have c1 := k1.is 0 rfl
      have c3 := k3.is 0 rfl
      have c4 := k4.is 0 rfl
      have c5 := k5.is 0 rfl
      have x0 := kx.is 0 rfl
      have x1 := kx.is 1 rfl
      have x2 := kx.is 2 rfl
      have x3 := kx.is 3 rfl
      have f1 := k1.frozen 0
      have f3 := k3.frozen 0
      by_cases hm : most ≤ ((pageL pre from_ most).length : Int)
      · gi_wp2
        exact ⟨KeepsFrom.refl _ _, rfl, pre, x, rfl, hm, A, c, k1, k2, k3, k4, k5, k6, k7⟩
      · by_cases hfp : from_ ≤ (pre.length : Int)
        · have e := @pageL_snoc_yes pre x from_ most (by omega) hfp (by omega)
          have E := Lib.hid e
          clear e
          obtain ⟨i, z, hi, hz', hsz, hby, hzs⟩ := ev_elem.inf
          have HS := Lib.hid hsz
          have HZ := Lib.hid hzs
          have hpl := pageL_len pre from_ most
          have hne := k2.ne_blk k1 (by decide)
          have hne3 := k2.ne_blk k3 (by decide)
          have HN := Lib.hid (And.intro hne hne3)
          have K1 := Lib.hid (k1.alloc (.cells (evA x) 33))
          have K2 := Lib.hid (k2.alloc (.cells (evA x) 33))
          have K3 := Lib.hid (k3.alloc (.cells (evA x) 33))
          have K4 := Lib.hid (k4.alloc (.cells (evA x) 33))
          have K5 := Lib.hid (k5.alloc (.cells (evA x) 33))
          clear hsz hzs hne hne3
          gi_wp2_with (gi_at_builtin; refine wpListIn_append_own _ rfl (.tmp 25) (.tmp 27) 22 rfl W0.heap.size 33 i z 4 32 Try.underlying22 hi hz' HS.out hby HZ.out (by omega) _ _ _ rfl K2.out ⟨W.heap.size, 0, none⟩ 1 1 (evC x) rfl rfl (World.news_of_block (Blk.new W 33 (evA x))) (ev_enc.one x) (by unfold maxLen; omega) (by omega) (by simp; omega) ?_; intro v' w1 hown1 hgrow _; obtain ⟨g', cap', rfl, hg1, hg2⟩ := World.ownsRow.form hown1 (by omega); have m1 := K1.out.grown hgrow HN.out.1.symm; have m3 := K3.out.grown hgrow HN.out.2.symm; have d1 := m1.is 0 rfl; have d2 := m1.frozen 0; have d3 := m3.is 0 rfl; have d4 := m3.frozen 0)
          have hW1 : W.heap.size + 1 ≤ w1.heap.size := by have := hgrow.size; simpa using this
          have hF : ∀ k, k < W0.heap.size → k ≠ w.heap.size + 1 + 1 → k ≠ w.heap.size + 1 + 1 + 1 → ((w1.setCell ⟨w.heap.size + 1 + 1, 0, none⟩ (.slice (some ⟨g', 0, none⟩) ((pageL pre from_ most).length + 1) cap')).setCell ⟨w.heap.size + 1 + 1 + 1, 0, none⟩ (.int .i64 (pre.length + 1))).heap[k]? = W.heap[k]? := fun k hk hk1 hk2 =>
            (Below.heap_setCell _ _ _ _ hk2).trans ((Below.heap_setCell _ _ _ _ hk1).trans ((hgrow.block k (by simp; omega) (fun e => by have := (k2.lt k e.symm).1; omega)).trans (Below.heap_alloc _ _ _ (by omega))))
          refine ⟨((KeepsOthers.alloc W _).trans ((KeepsOthers.of_grownBy hgrow (fun j o hj ho => K2.out.cells_row hj ho)).trans ((KeepsOthers.setCell _ _ _).trans (KeepsOthers.setCell _ _ _)))).from _, ⟨by simp; omega, fun k hk => hF k (by omega) (by omega) (by omega)⟩, some ⟨g', 0, none⟩, cap', ?_, ?_, ?_, ?_, ?_, ?_, by simp; omega⟩
          · rw [E.out, List.length_append]
            exact (m1.put 0 _).far (by simp) _
          · rw [E.out, List.length_append]
            have hown2 : Own evC 4 33 w1 W0.heap.size (.slice (some ⟨g', 0, none⟩) ((pageL pre from_ most).length + 1) cap') (pageL pre from_ most ++ [x]) := by
              unfold Own
              rw [List.length_append, List.flatMap_append]
              simpa using hown1
            exact (hown2.set (p := ⟨w.heap.size + 1 + 1, 0, none⟩) _ (hown2.ne_blk m1 (by decide))).set (p := ⟨w.heap.size + 1 + 1 + 1, 0, none⟩) _ (hown2.ne_blk m3 (by decide))
          · rw [List.length_append]
            exact (m3.far (by simp) _).put 0 _
          · exact (hF _ (by omega) (by omega) (by omega)).trans k4
          · exact (hF _ (by omega) (by omega) (by omega)).trans k5
          · exact (((k6.alloc k6.size _).grown hgrow (by simp; have := k6.size; omega) (fun k e => by have := (k2.lt k e).1; omega)).setCell (by simp; omega) _).setCell (by simp; omega) _
        · have e := @pageL_snoc_no pre x from_ most (by omega)
          have E := Lib.hid e
          clear e
          gi_wp2
          refine ⟨(KeepsOthers.setCell _ _ _).from _, ⟨by simp, fun k hk => Below.heap_setCell _ _ _ _ (by simp; omega)⟩, A, c, ?_, ?_, ?_, ?_, ?_, ?_, by simp; omega⟩
          · rw [E.out]; exact k1.far (by simp) _
          · rw [E.out]; exact k2.set (p := ⟨w.heap.size + 1 + 1 + 1, 0, none⟩) _ (k2.ne_blk k3 (by decide))
          · rw [List.length_append]; exact k3.put 0 _
          · exact k4.far (by simp; omega) _
          · exact k5.far (by simp) _
          · exact k6.setCell (by simp; omega) _
    case done =>
      rintro D ys W hD rfl ⟨A, c, k1, k2, k3, k4, k5, k6, k7⟩ hK
      have c1 := k1.is 0 rfl
      gi_wp2
      refine ⟨by simp, .inl ⟨_, _, rfl, run_takeDeferred hK, ?_⟩⟩
      exact ⟨_, results_tmp rfl _ _ _, _, rfl, (k2.more hB0.size).from_ (B := 0) (grownBy_putObj' W D _) (fun r e => by cases e; exact ⟨Nat.zero_le _, _, hK, rfl⟩), k6.trans (belowK_b (w := w) (Nat.le_refl _) W D _ _ (by omega) hK rfl rfl)⟩
    case stop =>
      rintro D c pre W hD hpre ⟨rfl, q, x, rfl, hm, A, c, k1, k2, k3, k4, k5, k6, k7⟩ hK
      have c1 := k1.is 0 rfl
      have e := pageL_pre (List.IsPrefix.trans (List.prefix_append q [x]) hpre) hm
      have E := Lib.hid e
      clear e
      gi_wp2
      refine ⟨by simp, .inl ⟨_, _, rfl, run_takeDeferred hK, ?_⟩⟩
      rw [E.out]
      exact ⟨_, results_tmp rfl _ _ _, _, rfl, (k2.more hB0.size).from_ (B := 0) (grownBy_putObj' W D _) (fun r e => by cases e; exact ⟨Nat.zero_le _, _, hK, rfl⟩), k6.trans (belowK_b (w := w) (Nat.le_refl _) W D _ _ (by omega) hK rfl rfl)⟩

theorem own_in (F : Fence) (n : Nat) (h12 : F.fn 12) (h24 : F.fn 24) (h26 : F.fn 26) (hro : F.round = none) (hn : 3 ≤ n) (w : World) (base b : Nat) (l : List Ev) (past user from_ most : Int) (hlen : l.length ≤ 1000)
    (h : Trl w base b l past) : CallsIn F n Try.prog 12 #[.pointer (some ⟨b, 0, none⟩), .int .i64 user, .int .i64 from_, .int .i64 most] w (GivesEv w (pageL (ownL l user) from_ most)) :=
  own_gen F n h12 h24 h26 hro hn w _ _ _ user from_ most hlen (iter_trail F (n - 1) h26 hro (by omega) w base b l past user hlen h)

theorem three_blocks (w : World) (c0 c1 c2 : Array Value) (t0 t1 t2 : TypeId) (W : World) (h : ((w.alloc (.cells c0 t0)).alloc (.cells c1 t1)).alloc (.cells c2 t2) = W) :
    Blk W w.heap.size t0 c0 ∧ Blk W (w.heap.size + 1) t1 c1 ∧ Blk W (w.heap.size + 1 + 1) t2 c2 ∧ W.heap.size = w.heap.size + 3 ∧ Below w.heap.size w W := by
  subst h
  refine ⟨?_, ?_, ?_, by simp, ?_⟩
  · exact ((Blk.new w t0 c0).alloc _).alloc _
  · have := (Blk.new (w.alloc (.cells c0 t0)) t1 c1).alloc (.cells c2 t2)
    simpa using this
  · have := Blk.new ((w.alloc (.cells c0 t0)).alloc (.cells c1 t1)) t2 c2
    simpa using this
  · exact (((Below.refl _ w).alloc (Nat.le_refl _) _).alloc (by simp) _).alloc (by simp; omega) _

/-- The invariant of Count's loop. -/
def CI (w : World) (B : Nat) (pre : List Ev) (W : World) : Prop := Blk W w.heap.size 3 #[.int .i64 pre.length] ∧ Below w.heap.size w W ∧ B ≤ W.heap.size
theorem CI.from_ (w : World) (B : Nat) (hB : w.heap.size ≤ B) : OwnFrom B (CI w B) := by
  intro pre X Y row ⟨h1, h6, h7⟩ hg hr
  exact ⟨h1.from_ hg hr, h6.grown hg h6.size (fun k e => Nat.le_trans hB (hr k e).1), Nat.le_trans h7 hg.size⟩

set_option maxRecDepth 100000 in
set_option maxHeartbeats 2000000 in
theorem count_gen (F : Fence) (n : Nat) (h16 : F.fn 16) (h24 : F.fn 24) (h26 : F.fn 26) (hro : F.round = none) (hn : 3 ≤ n) (w : World) (pa : Option Addr) (xs : List Ev) (N : Nat) (user : Int) (hlen : N ≤ 1000)
    (hseq : IterOk F (n - 1) w pa user xs N) : CallsIn F n Try.prog 16 #[.pointer pa, .int .i64 user] w fun e w' => e = .returned (.int .i64 xs.length) ∧ Below w.heap.size w w' := by
  have h1 : 1 ≤ n := by omega
  refine callsIn_of_wp_marks Try.func16 rfl h16 ?_ hro
  simp only [Try.ntmps16, List.size_toArray, List.length_cons, List.length_nil, Nat.reduceAdd, Nat.reduceSub, Array.replicate_succ, Array.replicate_zero, List.push_toArray, List.append_toArray, List.nil_append, List.cons_append]
  gi_wp2_with (gi_at_call 24; refine (of_in F (n - 1) h24 hro _ _ ⟨_, rfl⟩ _).mono ?_; rintro e w' ⟨rfl, rfl⟩)
  generalize hW : ((w.alloc (Obj.cells #[Value.int IntKind.i64 0] 3)).alloc (Obj.cells #[Value.pointer pa] 24)).alloc (Obj.cells #[Value.int IntKind.i64 user] 3) = W0
  obtain ⟨b0, b4, b5, hz, hB0⟩ := three_blocks _ _ _ _ _ _ _ _ hW
  have hzle : w.heap.size + 3 ≤ W0.heap.size := by omega
  clear hz hW
  refine wpIn_rangeFunc_ownH hro h1 (gf := 26) (lb := #[.pointer (some ⟨w.heap.size + 1, 0, none⟩), .pointer (some ⟨w.heap.size + 1 + 1, 0, none⟩)]) rfl h26 (enters_of Try.func26 (by kernel_rfl) rfl)
    (hseq W0 (w.heap.size + 1) (w.heap.size + 1 + 1) hB0 b4 b5 (by omega) (by omega) (by omega) (by omega))
    (fun h k => h.t k) (KP.b (fun k hk => by omega)) (Below.refl _ _) (fun _ => rfl)
    (CI w W0.heap.size) (fun _ _ _ => False)
    (CI.from_ w _ hB0.size) (fun _ _ _ _ _ hs _ _ => hs)
    ⟨b0, hB0, Nat.le_refl _⟩
    (fun x a' W => a' = { tmps := #[.pointer pa, .int .i64 user, undef, undef, .int .i64 0, .pointer (some ⟨w.heap.size, 0, none⟩), .pointer pa, .int .i64 user, .func (.func 26) #[] #[.pointer (some ⟨w.heap.size + 1, 0, none⟩), .pointer (some ⟨w.heap.size + 1 + 1, 0, none⟩)], evV x, undef, undef, undef], defers := [] })
    (fun x a' _ X Y row hs hg hr => hs)
    ?assign ?body ?done ?stop
  case assign =>
    rintro lp pre x W K hI hK
    gi_wp2
    exact hK _ _ (KeepsFrom.refl _ _) ⟨Nat.le_refl _, KS.refl _ _⟩ hI (by simp)
  case body =>
    rintro lp pre x a' W hl - ⟨k1, k6, k7⟩ rfl hlt
    have c1 := k1.is 0 rfl
    have f1 := k1.frozen 0
    gi_wp2
    refine ⟨(KeepsOthers.setCell _ _ _).from _, ⟨by simp, fun k hk => Below.heap_setCell _ _ _ _ (by simp; omega)⟩, ?_, k6.setCell (Nat.le_refl _) _, by simp; omega⟩
    rw [List.length_append]
    exact k1.put 0 _
  case done =>
    rintro D ys W hD rfl ⟨k1, k6, k7⟩ hK
    have c1 := k1.is 0 rfl
    gi_wp2
    refine ⟨by simp, .inl ⟨_, _, rfl, run_takeDeferred hK, ?_⟩⟩
    exact ⟨_, results_tmp rfl _ _ _, rfl, k6.trans (belowK_b (w := w) (Nat.le_refl _) W D _ _ (by omega) hK rfl rfl)⟩
  case stop =>
    rintro D c pre W hD hpre h _
    exact h.elim

theorem count_in (F : Fence) (n : Nat) (h16 : F.fn 16) (h24 : F.fn 24) (h26 : F.fn 26) (hro : F.round = none) (hn : 3 ≤ n) (w : World) (base b : Nat) (l : List Ev) (past user : Int) (hlen : l.length ≤ 1000)
    (h : Trl w base b l past) : CallsIn F n Try.prog 16 #[.pointer (some ⟨b, 0, none⟩), .int .i64 user] w fun e w' => e = .returned (.int .i64 (ownL l user).length) ∧ Below w.heap.size w w' :=
  count_gen F n h16 h24 h26 hro hn w _ _ _ user hlen (iter_trail F (n - 1) h26 hro (by omega) w base b l past user hlen h)

theorem own_ok (w : World) (base b : Nat) (l : List Ev) (past user from_ most : Int) (hlen : l.length ≤ 1000) (h : Trl w base b l past) :
    Calls Try.prog 12 #[.pointer (some ⟨b, 0, none⟩), .int .i64 user, .int .i64 from_, .int .i64 most] w (GivesEv w (pageL (ownL l user) from_ most)) :=
  callsIn_wide.1 (own_in Fence.wide 3 trivial trivial trivial rfl (Nat.le_refl _) w base b l past user from_ most hlen h)
theorem count_ok (w : World) (base b : Nat) (l : List Ev) (past user : Int) (hlen : l.length ≤ 1000) (h : Trl w base b l past) :
    Calls Try.prog 16 #[.pointer (some ⟨b, 0, none⟩), .int .i64 user] w fun e w' => e = .returned (.int .i64 (ownL l user).length) ∧ Below w.heap.size w w' :=
  callsIn_wide.1 (count_in Fence.wide 3 trivial trivial trivial rfl (Nat.le_refl _) w base b l past user hlen h)
theorem own_nil (w : World) (user from_ most : Int) : Calls Try.prog 12 #[.pointer none, .int .i64 user, .int .i64 from_, .int .i64 most] w (GivesEv w (pageL [] from_ most)) :=
  callsIn_wide.1 (own_gen Fence.wide 3 trivial trivial trivial rfl (Nat.le_refl _) w none [] 0 user from_ most (by omega) (iter_nil Fence.wide 2 trivial rfl w user))
theorem count_nil (w : World) (user : Int) : Calls Try.prog 16 #[.pointer none, .int .i64 user] w fun e w' => e = .returned (.int .i64 ([] : List Ev).length) ∧ Below w.heap.size w w' :=
  callsIn_wide.1 (count_gen Fence.wide 3 trivial trivial trivial rfl (Nat.le_refl _) w none [] 0 user (by omega) (iter_nil Fence.wide 2 trivial rfl w user))
end Go.Proofs.Ytnkgdabapgdiaaa
