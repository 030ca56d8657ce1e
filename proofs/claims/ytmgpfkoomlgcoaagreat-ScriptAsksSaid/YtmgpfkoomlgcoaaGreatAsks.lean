/-
  Asks and the steps that come of them: script.Steps and the reference's. Conditions: as each states.
-/
import Derived.Test.YtmgpfkoomlgcoaaGreatStep
import Derived.Test.YtmgpfkoomlgcoaaGreatFrame
import Derived.Test.YtmgpfkoomlgcoaaGreatRb
import Derived.Deep.MidRow
import Derived.Deep.DeepMust
namespace Go.Proofs.YtmgpfkoomlgcoaaGreat
open Go.RowKit Go.Lib
attribute [local go_sem ↓] load_req stop_req

structure Akt where
  q : Req
  d : Nat
  t : Int
def akC (a : Akt) : List Value := (rqC a.q).toList ++ [.int .u64 a.d, .int .i64 a.t]
def akA (a : Akt) : Array Value := (akC a).toArray
theorem akC_len (a : Akt) : (akC a).length = 26 := rfl
theorem rqC_one (q : Req) : ∀ u ∈ (rqC q).toList, u.oneCell' = true := fun u hu => by
  have := Array.all_eq_true_iff_forall_mem.1 (rq_one q) u (by simpa using hu)
  exact this
theorem ak_enc : EncOk akC 26 := ⟨akC_len, fun a u hu => by
  unfold akC at hu
  rw [List.mem_append] at hu
  rcases hu with hu | hu
  · exact rqC_one a.q u hu
  · simp only [List.mem_cons, List.not_mem_nil, or_false] at hu
    rcases hu with rfl | rfl <;> rfl⟩
theorem akA_size (a : Akt) : (akA a).size = 26 := rfl
theorem akA_list (a : Akt) : (akA a).toList = akC a := rfl
theorem akA_one (a : Akt) : (akA a).all (·.oneCell') = true := all_oneCell_toArray (ak_enc.one a)
theorem ask_size (a : Akt) : (Tryz.prog.info? 87).map (·.size) = some (akA a).size := by
  rw [akA_size]; kernel_rfl
abbrev zeroAk : Array Value := #[.int .i64 0, .int .i64 0, .int .i64 0, .int .u64 0, .int .i64 0, .int .i64 0, .int .i64 0, .int .i64 0, .int .i64 0, .string ⟨#[]⟩, .int .i64 0, .int .i64 0, .int .i64 0, .int .i64 0, .int .i64 0, .int .i64 0, .int .i64 0, .int .u64 0, .int .i64 0, .int .u64 0, .int .i64 0, .int .i64 0, .int .i64 0, .int .i64 0, .int .u64 0, .int .i64 0]

/-- A struct is read whole, wherever it lies. -/
theorem load_arr {P : Program} {ops : Array Oper} {rest : List Oper} {op : Oper} {a : Act} {w : World} {Q : Exit → Act → World → Prop} (hgd : op.guard = none) (ty : TypeId) (x : Operand) (ho : op.op = .load ty x)
    (b o : Nat) (hx : a.eval x = .pointer (some ⟨b, o, none⟩)) (cs : Array Value) (d : TypeDesc) (hc : Lay w b o cs.toList)
    (hu : P.underlying ty = some d) (hd : d.isRow = true) (hi : (P.info? ty).map (·.size) = some cs.size)
    (h : wpList P ops Q rest (a.put op.dst (.agg cs)) w) : wpList P ops Q (op :: rest) a w :=
  wpList_load_mid hgd ty x ho b o hx cs.toList d hc hu hd (by simpa using hi) (by simpa using h)

def tkB (n : Int) : Bool := decide (0 ≤ n) && decide (n ≤ 4294967295)
def cnB (n : Int) : Bool := decide (0 ≤ n) && decide (n < 8)
theorem ticks_ok (n : Int) (w : World) : Calls Tryz.prog 99 #[.int .i64 n] w fun e w' => e = .returned (.bool (tkB n)) ∧ w' = w := by
  unfold tkB
  by_cases h : 0 ≤ n
  all_goals
    go_enter Tryz.func99, Tryz.ntmps99
    go_wp2
    go_ret
    simp [h] <;> omega
theorem conn_ok (n : Int) (w : World) : Calls Tryz.prog 97 #[.int .i64 n] w fun e w' => e = .returned (.bool (cnB n)) ∧ w' = w := by
  unfold cnB
  by_cases h : 0 ≤ n
  all_goals
    go_enter Tryz.func97, Tryz.ntmps97
    go_wp2
    go_ret
    simp [h] <;> omega

/-! ### Steps that a call has made -/
def Apart (w : World) (v : Value) (ls : List Stp) : Prop := ∀ s ∈ ls, ∀ a, s.A = some a → v.ownBlock ≠ some a.block ∧ a.block < w.heap.size
structure SInv (w wr : World) (ls : List Stp) (xs : List PSt) (v : Value) : Prop where
  own : Own stC 5 97 wr w.heap.size v ls
  sts : StsR wr ls xs
  apart : Apart wr v ls
  bel : Below w.heap.size w wr
theorem SInv.start (w : World) : SInv w w [] [] (.slice none 0 0) := ⟨Own.nil, StsR.nil w, fun s hs => by simp at hs, Below.refl _ _⟩
theorem SInv.below {w wr w' : World} {ls : List Stp} {xs : List PSt} {v : Value} (h : SInv w wr ls xs v) (hb : Below wr.heap.size wr w') : SInv w w' ls xs v :=
  ⟨h.own.keep fun b hb' => hb.block b (h.own.lt b hb').2, h.sts.below hb, fun s hs a ha => ⟨(h.apart s hs a ha).1, Nat.lt_of_lt_of_le (h.apart s hs a ha).2 hb.size⟩, h.bel.trans (hb.mono h.bel.size)⟩
theorem StR.far {w w' : World} {s : Stp} {x : PSt} (h : StR w s x) (hs : w.heap.size ≤ w'.heap.size) (hk : ∀ a, s.A = some a → w'.heap[a.block]? = w.heap[a.block]?) : StR w' s x := by
  refine ⟨h.kind, h.conn, ?_, h.draw, h.n⟩
  obtain ⟨A, cap, e, h1, h2, h3⟩ := h.l
  refine ⟨A, cap, e, h1, h2, fun hp => ?_⟩
  obtain ⟨b, off, rfl, hb, hl⟩ := h3 hp
  injection e with e1 e2 e3
  exact ⟨b, off, rfl, Nat.lt_of_lt_of_le hb hs, hl.of_heap (hk _ e1)⟩
theorem SInv.app {w w5 w7 : World} {ls ys : List Stp} {xs ws : List PSt} {v v' : Value} {g' : Nat} (h : SInv w w5 ls xs v) (o : Obj) (hgrow : (w5.alloc o).grownBy w7 v.ownBlock) (hat : v.ownBlock = some g' ∨ g' = (w5.alloc o).heap.size)
    (hown : Own stC 5 97 w7 w.heap.size v' (ls ++ ys)) (hv : v'.ownBlock = some g') (hs : StsR w5 ys ws) (ha : Apart w5 v ys) : SInv w w7 (ls ++ ys) (xs ++ ws) v' := by
  have hall : Apart w5 v (ls ++ ys) := fun s hs => by
    rcases List.mem_append.1 hs with h1 | h1
    · exact h.apart s h1
    · exact ha s h1
  have hsz : w5.heap.size ≤ w7.heap.size := Nat.le_trans (by simp) hgrow.size
  have hkeep : ∀ s ∈ ls ++ ys, ∀ a, s.A = some a → w7.heap[a.block]? = w5.heap[a.block]? := fun s hs a hsa => by
    obtain ⟨h1, h2⟩ := hall s hs a hsa
    rw [hgrow.block a.block (by simp; omega) (fun e => h1 e.symm)]
    exact Below.heap_alloc w5 o _ h2
  have hsts := h.sts.append hs
  refine ⟨hown, ⟨hsts.1, fun i s x h1 h2 => (hsts.2 i s x h1 h2).far hsz (hkeep s (List.mem_of_getElem? h1))⟩, fun s hs a hsa => ?_, ?_⟩
  · obtain ⟨h1, h2⟩ := hall s hs a hsa
    refine ⟨fun e => ?_, Nat.lt_of_lt_of_le h2 hsz⟩
    rw [hv] at e
    simp only [Option.some.injEq] at e
    rcases hat with h3 | h3
    · exact h1 (by rw [h3, e])
    · simp at h3; omega
  · exact (h.bel.alloc h.bel.size o).grown hgrow (by simp; have := h.bel.size; omega) (fun b hb => (h.own.lt b hb).1)

def okAk (a : Akt) : Bool := rbOk a.q && tkB a.t
def st3 (conn : Int) (a : Akt) : List PSt := [⟨3, 0, [], 0, a.t⟩, ⟨1, conn, toBE 2 (rbL a.q).length ++ rbL a.q, 0, 0⟩, ⟨2, conn, [], a.d, 0⟩]
theorem encE_rb (q : Req) : (encE q = 0 ↔ rbOk q = true) := by
  constructor
  · intro h
    rw [← (enc_rb q).1]
    exact encE_ok h
  · intro h
    have ho : isOp q.op = true := by
      unfold rbOk at h
      simp only [Bool.and_eq_true] at h
      exact h.1
    unfold encE
    rw [if_neg (by rw [ho]; simp), if_pos ((enc_rb q).1.trans h)]
theorem rb_len (q : Req) (h : rbOk q = true) : 0 < (rbL q).length ∧ (rbL q).length ≤ 600 := by
  have h1 : encOk q = true := (enc_rb q).1.trans h
  have h2 := (enc_rb q).2 h1
  have hg := (enc_good h1).1
  rw [h2] at hg
  have := hg.len
  have := hg.top
  omega
theorem enc_is (q : Req) (h : rbOk q = true) : encL q = rbL q := (enc_rb q).2 ((enc_rb q).1.trans h)
theorem all_no {l : List Akt} {k : Nat} (hk : k < l.length) (h : okAk l[k] = false) : l.all okAk = false :=
  List.all_eq_false.2 ⟨l[k], List.getElem_mem hk, by rw [h]; simp⟩
theorem all_yes {l : List Akt} (h : ∀ a ∈ l.take l.length, okAk a = true) : l.all okAk = true :=
  List.all_eq_true.2 fun a ha => h a (by rw [List.take_length]; exact ha)
theorem st_ok {w : World} {conn : Int} (hc : cnB conn = true) {l : List Akt} (hl : l.all okAk = true) {ls : List Stp} (h : StsR w ls (l.flatMap (st3 conn))) : ∀ s ∈ ls, okStp s := fun s hs => by
  unfold cnB at hc
  simp only [Bool.and_eq_true, decide_eq_true_eq] at hc
  obtain ⟨i, hi, rfl⟩ := List.getElem_of_mem hs
  have hx : i < (l.flatMap (st3 conn)).length := by rw [← h.1]; exact hi
  have hr := h.2 i _ _ (List.getElem?_eq_getElem hi) (List.getElem?_eq_getElem hx)
  have hlen := hr.len
  obtain ⟨a, ha, hm⟩ := List.mem_flatMap.1 (List.getElem_mem hx)
  have hoa := List.all_eq_true.1 hl a ha
  unfold okAk tkB at hoa
  simp only [Bool.and_eq_true, decide_eq_true_eq] at hoa
  have hb := rb_len a.q hoa.1
  obtain ⟨x, hxx⟩ : ∃ x, (l.flatMap (st3 conn))[i] = x := ⟨_, rfl⟩
  rw [hxx] at hr hlen hm
  obtain ⟨k0, k1, -, k3, k4⟩ := hr
  unfold okStp
  rw [k0, k1, k3, k4, hlen]
  simp only [st3, List.mem_cons, List.not_mem_nil, or_false] at hm
  rcases hm with rfl | rfl | rfl
  · exact .inl ⟨rfl, rfl, rfl, rfl, hoa.2.1, hoa.2.2⟩
  · refine .inr (.inl ⟨rfl, hc.1, hc.2, ?_, rfl, rfl⟩)
    simp only [List.length_append, toBE_len]
    omega
  · exact .inr (.inr ⟨rfl, hc.1, hc.2, rfl, rfl⟩)

theorem sl_three (w : World) (s1 s2 s3 : Stp) : Sl stC (w.alloc (.cells ([s1, s2, s3].flatMap stC).toArray 97)) (w.alloc (.cells ([s1, s2, s3].flatMap stC).toArray 97)).heap.size (.slice (some ⟨w.heap.size, 0, none⟩) 3 3) [s1, s2, s3] :=
  (Own.of_blk (base := w.heap.size) (k := 5) (e := 97) (l := [s1, s2, s3]) (Blk.new w _ _) (Nat.le_refl _) rfl stC_len (by unfold maxLen; simp)).sl
def StepsPost (w : World) (conn : Int) (l : List Akt) (e : Ending) (w' : World) : Prop :=
  (l.all okAk = true ∧ ∃ v ls, e = .returned (.tuple #[v, .int .i64 0]) ∧ Sl stC w' w'.heap.size v ls ∧ StsR w' ls (l.flatMap (st3 conn)) ∧ Below w.heap.size w w') ∨
  (l.all okAk = false ∧ e = .returned (.tuple #[.slice none 0 0, .int .i64 1]) ∧ Below w.heap.size w w')

set_option maxRecDepth 100000 in
theorem steps_no (conn : Int) (hc : cnB conn = false) (A : Option Addr) (n ca : Nat) (w : World) :
    Calls Tryz.prog 34 #[.int .i64 conn, .slice A n ca] w (fun e w' => e = .returned (.tuple #[.slice none 0 0, .int .i64 1]) ∧ Below w.heap.size w w') := by
  have ht := conn_ok conn
  rw [hc] at ht
  have HT := Lib.hid ht
  clear ht hc
  go_enter Tryz.func34, Tryz.ntmps34
  go_wp2_with fail
  refine (HT.out _).mono ?_
  rintro e w' ⟨rfl, hw'⟩
  rw [hw']
  clear hw' w'
  go_wp2_with fail
  go_ret2
  exact ⟨rfl, Below.refl _ _⟩

set_option maxRecDepth 100000 in
set_option maxHeartbeats 4000000 in
theorem steps_ok (conn : Int) (hc : cnB conn = true) (l : List Akt) (v : Value) (w : World) (hs : Sl akC w w.heap.size v l) (hf : ∀ a ∈ l, a.q.fits) (hl : l.length ≤ 60) :
    Calls Tryz.prog 34 #[.int .i64 conn, v] w (StepsPost w conn l) := by
  have ht := conn_ok conn
  rw [hc] at ht
  have HT := Lib.hid ht
  clear ht hc
  have HFI := Lib.hid hf
  obtain ⟨A, ca, rfl, h1, h2, h3⟩ := hs
  have H3 := Lib.hid h3
  clear h3 hf h2
  go_enter Tryz.func34, Tryz.ntmps34
  go_wp2_with fail
  refine (HT.out _).mono ?_
  rintro e w' ⟨rfl, hw'⟩
  rw [hw']
  clear hw' w'
  go_wp2_with fail
  go_loopw [6, 18] (fun out i wr => ∃ (k : Nat) (ls : List Stp) (A' : Option Addr) (c' : Nat), k ≤ l.length ∧ i = .int .i64 (k : Nat) ∧ Hid (ls.length = 3 * k) ∧ ls.length ≤ 3 * k ∧ out = .slice A' ls.length c' ∧ Hid (SInv w wr ls ((l.take k).flatMap (st3 conn)) (.slice A' ls.length c')) ∧ Hid (∀ a ∈ l.take k, okAk a = true)) (fun _ i _ => (l.length - intOf i).toNat)
  case atStart => exact ⟨0, [], none, 0, Nat.zero_le _, rfl, Lib.hid rfl, by simp, rfl, Lib.hid (SInv.start w), Lib.hid (by simp)⟩
  case round =>
    obtain ⟨k, ls, A', c', hk, rfl, HLL, hle, rfl, HI, HALL⟩ := hrel
    have hsz := HI.out.bel.size
    by_cases hlt : k < l.length
    · obtain ⟨b, off, rfl, hb, hlay⟩ := H3.out (by omega)
      have hrow := (hlay.of_heap (HI.out.bel.block b hb)).elem akC_len k hlt
      have hta := List.take_succ_eq_append_getElem hlt
      have hfa := HFI.out l[k] (List.getElem_mem hlt)
      have hno := fun h : okAk l[k] = false => all_no hlt h
      obtain ⟨a, ha⟩ : ∃ a, a = l[k] := ⟨_, rfl⟩
      rw [← ha] at hrow hta hfa hno
      have HROW := Lib.hid hrow
      have HTA := Lib.hid hta
      have HF := Lib.hid hfa
      have HNO := Lib.hid hno
      have hN2 := Blk.new wr 87 zeroAk
      have hW2 := (Below.refl wr.heap.size wr).alloc (Nat.le_refl _) (.cells zeroAk 87)
      obtain ⟨w2, hst2⟩ : ∃ w2, wr.alloc (.cells zeroAk 87) = w2 := ⟨_, rfl⟩
      rw [hst2] at hN2 hW2
      have hN3 := hN2.row (akA a)
      have hW3 := below_setRow hW2 (g := wr.heap.size) (Nat.le_refl _) (akA a)
      obtain ⟨w3, hst3⟩ : ∃ w3, w2.setRow wr.heap.size (akA a) = w3 := ⟨_, rfl⟩
      rw [hst3] at hN3 hW3
      have HN2 := Lib.hid hN2
      have HN3 := Lib.hid hN3
      have HW3 := Lib.hid hW3
      have HR0 := Lib.hid (show Lay w3 wr.heap.size 0 (rqC a.q).toList from hN3.lay.left)
      clear hrow hta hfa hno ha hN2 hW2 hN3 hW3 hlay
      go_wp2_with (first
        | (refine load_arr rfl 87 (.tmp 20) rfl b (off + k * 26) rfl (akA a) _ HROW.out Tryz.underlying87 rfl (ask_size a) ?_)
        | (refine wpList_store_row rfl 87 (.tmp 8) (.tmp 21) rfl wr.heap.size (akA a) rfl rfl 87 zeroAk HN2.out (ask_size a) rfl (akA_one a) ?_)
        | (refine load_arr rfl 49 (.tmp 23) rfl wr.heap.size 0 rfl (rqC a.q) _ HR0.out Tryz.underlying49 rfl (rq_size _) ?_))
      refine (Encode_ok a.q _ HF.out).mono ?_
      rintro e w4 ⟨vb, lb, rfl, hsb, hb0, hb1, hbel4⟩
      have hN4 := HN3.out.below hbel4 HN3.out.lt
      have c24 : w4.cell? ⟨wr.heap.size, 24, none⟩ = some (.int .u64 (a.d : Nat)) := hN4.is 24 rfl
      have c25 : w4.cell? ⟨wr.heap.size, 25, none⟩ = some (.int .i64 a.t) := hN4.is 25 rfl
      have hW4 := HW3.out.trans (hbel4.mono HW3.out.size)
      have HI4 := Lib.hid (HI.out.below hW4)
      have HW4 := Lib.hid hW4
      have HN4 := Lib.hid hN4
      have HT4 := Lib.hid (ticks_ok a.t)
      clear hN4 hW4 hbel4
      by_cases hz : encE a.q = 0
      · have hrb := (encE_rb a.q).1 hz
        have hlb := (hb0 hz).trans (enc_is a.q hrb)
        rw [hz]
        rw [hlb] at hsb
        obtain ⟨hp, h6⟩ := rb_len a.q hrb
        have HS := Lib.hid hsb
        have HRB := Lib.hid hrb
        obtain ⟨n, hn⟩ : ∃ n, (rbL a.q).length = n := ⟨_, rfl⟩
        have HP := Lib.hid hp
        have H6 := Lib.hid h6
        clear hz hlb hsb hb0 hb1 hrb hp h6 hn n
        cases htk : tkB a.t
        · have HNT := Lib.hid (HNO.out (by unfold okAk; rw [htk]; simp))
          have h4 := HT4.out
          rw [htk] at h4
          have H4 := Lib.hid h4
          clear h4 htk
          go_wp2_with fail
          refine (H4.out _).mono ?_
          rintro e w' ⟨rfl, hw'⟩
          rw [hw']
          clear hw' w'
          go_wp2_with fail
          go_ret2
          exact .inr ⟨HNT.out, rfl, HI4.out.bel⟩
        · have HYES := Lib.hid (show okAk a = true by unfold okAk; rw [htk, HRB.out]; rfl)
          have h4 := HT4.out
          rw [htk] at h4
          have H4 := Lib.hid h4
          clear h4 htk
          go_wp2_with fail
          refine (H4.out _).mono ?_
          rintro e w' ⟨rfl, hw'⟩
          rw [hw']
          clear hw' w'
          go_wp2_with fail
          refine (frame_ok (rbL a.q) _ _ HS.out HP.out H6.out).mono ?_
          rintro e w5 ⟨vw, rfl, hsw, hbel5, hown5⟩
          have hN5 := HN4.out.below hbel5 HN4.out.lt
          have d24 : w5.cell? ⟨wr.heap.size, 24, none⟩ = some (.int .u64 (a.d : Nat)) := hN5.is 24 rfl
          have d25 : w5.cell? ⟨wr.heap.size, 25, none⟩ = some (.int .i64 a.t) := hN5.is 25 rfl
          have HI5 := Lib.hid (HI4.out.below hbel5)
          have HOW5 := Lib.hid (fun g h => (hown5 g h))
          have h45 := hbel5.size
          have hold : ∀ g, (Value.slice A' ls.length c').ownBlock = some g → g < w4.heap.size := fun g hg => (HI4.out.own.lt g hg).2
          have HOLD := Lib.hid hold
          have HSW := Lib.hid hsw
          obtain ⟨fl, hfl⟩ : ∃ fl, toBE 2 (rbL a.q).length ++ rbL a.q = fl := ⟨_, rfl⟩
          have HFL := Lib.hid hfl
          rw [hfl] at HSW
          obtain ⟨A5, c5, rfl, -, -, -⟩ := hsw
          rw [hfl] at HOW5 HSW ⊢
          clear hN5 hbel5 hown5 hold hfl
          have hsz5 := HI5.out.bel.size
          go_wp2_with (at_builtin; go_must (refine app_sl stC_elem stC_enc rfl (.tmp 41) (.tmp 52) rfl rfl (HI5.out.own.alloc _) _ rfl [⟨3, 0, none, 0, 0, 0, a.t⟩, ⟨1, conn, A5, fl.length, c5, 0, 0⟩, ⟨2, conn, none, 0, 0, a.d, 0⟩] _ (sl_three w5 ⟨3, 0, none, 0, 0, 0, a.t⟩ ⟨1, conn, A5, fl.length, c5, 0, 0⟩ ⟨2, conn, none, 0, 0, a.d, 0⟩) (by simp) (by unfold maxLen; simp; omega) (by simp; omega) (by simp; omega) ?_); intro g' cap w7 hown7 hgrow hat hlt7)
          have HG := Lib.hid (HI5.out.app (ws := st3 conn a) _ hgrow hat hown7 rfl ⟨rfl, fun i s x e1 e2 => by
            match i with
            | 0 => simp [st3] at e1 e2; subst e1; subst e2; exact ⟨rfl, rfl, Sl.nil, rfl, rfl⟩
            | 1 => simp [st3] at e1 e2; subst e1; subst e2; exact ⟨rfl, rfl, by simp only; rw [HFL.out]; exact HSW.out, rfl, rfl⟩
            | 2 => simp [st3] at e1 e2; subst e1; subst e2; exact ⟨rfl, rfl, Sl.nil, rfl, rfl⟩
            | i + 3 => simp at e1⟩ (fun s hs ad had => by
              simp only [List.mem_cons, List.not_mem_nil, or_false] at hs
              rcases hs with rfl | rfl | rfl
              · cases had
              · simp only at had
                subst had
                obtain ⟨g1, g2⟩ := HOW5.out ad.block rfl
                exact ⟨fun e => by have := HOLD.out _ e; omega, g2⟩
              · cases had))
          clear hown7 hgrow hat
          go_roundw
          case rel => exact ⟨k + 1, ls ++ [⟨3, 0, none, 0, 0, 0, a.t⟩, ⟨1, conn, A5, fl.length, c5, 0, 0⟩, ⟨2, conn, none, 0, 0, a.d, 0⟩], some ⟨g', 0, none⟩, cap, by omega, by go_num, Lib.hid (by simp [HLL.out]; omega), by simp; omega, by simp, Lib.hid (by rw [HTA.out, List.flatMap_append]; simpa using HG.out), Lib.hid (fun a' ha' => by
            rw [HTA.out] at ha'
            rcases List.mem_append.1 ha' with h | h
            · exact HALL.out a' h
            · simp only [List.mem_cons, List.not_mem_nil, or_false] at h
              rw [h]
              exact HYES.out)⟩
          case measure => simp [intOf]; omega
      · have HNT := Lib.hid (HNO.out (by
          unfold okAk
          cases h : rbOk a.q
          · rfl
          · exact absurd ((encE_rb a.q).2 h) hz))
        have hz2 : encE a.q = 51 ∨ encE a.q = 1 := by
          unfold encE at hz ⊢
          split
          · exact .inl rfl
          · split
            · rename_i h1 h2
              rw [if_neg h1, if_pos h2] at hz
              exact absurd rfl hz
            · exact .inr rfl
        clear hb0 hb1 hsb hz
        rcases hz2 with hz | hz
        · rw [hz]
          clear hz
          go_wp2_with fail
          go_ret2
          exact .inr ⟨HNT.out, rfl, HI4.out.bel⟩
        · rw [hz]
          clear hz
          go_wp2_with fail
          go_ret2
          exact .inr ⟨HNT.out, rfl, HI4.out.bel⟩
    · obtain rfl : k = l.length := by omega
      have HYES := Lib.hid (all_yes HALL.out)
      go_wp2_with fail
      go_ret2
      exact .inl ⟨HYES.out, _, ls, rfl, HI.out.own.sl, by have := HI.out.sts; rwa [List.take_length] at this, HI.out.bel⟩
end Go.Proofs.YtmgpfkoomlgcoaaGreat
