/-
  Contracts of the trail's methods that hold no range over a function: New, Put, Len, Past, Skip, Left, Drain, and slices.Clone. Conditions: at most 1,000 events.
-/
import Derived.Test.YtnkgdabapgdiaaaRef
import Derived.Deep.RegionLaw
import Derived.Deep.AppendLies
import Derived.Maps.AppendAt
namespace Go.Proofs.Ytnkgdabapgdiaaa
open Go.RowKit

/-- A trail at block b: the events that are left, and how many were drained. -/
def Trl (w : World) (base b : Nat) (l : List Ev) (past : Int) : Prop := ∃ s, Blk w b 52 #[s, .int .i64 past] ∧ base ≤ b ∧ Own evC 4 33 w base s l

theorem Trl.below {w w' : World} {base b : Nat} {l : List Ev} {past : Int} (h : Trl w base b l past) (hb : Below w.heap.size w w') : Trl w' base b l past := by
  obtain ⟨s, h1, h2, h3⟩ := h
  exact ⟨s, h1.below hb h1.lt, h2, h3.keep fun g hg => hb.block g (h3.lt g hg).2⟩
theorem Trl.drewN {w : World} {base b : Nat} {l : List Ev} {past : Int} (h : Trl w base b l past) (n : Nat) : Trl (w.drewN n) base b l past := h
theorem Trl.lt {w : World} {base b : Nat} {l : List Ev} {past : Int} (h : Trl w base b l past) : base ≤ b ∧ b < w.heap.size := let ⟨_, h1, h2, _⟩ := h; ⟨h2, h1.lt⟩
theorem Trl.made (w : World) : Trl (w.alloc (.cells #[.slice none 0 0, .int .i64 0] 52)) w.heap.size w.heap.size [] 0 := ⟨_, Blk.new _ _ _, Nat.le_refl _, Own.nil⟩

/-- x is the block of the trail's row. -/
def Row (w : World) (b x : Nat) : Prop := ∃ s, w.cell? ⟨b, 0, none⟩ = some s ∧ s.ownBlock = some x
/-- What a method of the trail at b may turn: b, and its row; where its row then lies. -/
def Fr (w : World) (b : Nat) (w' : World) : Prop :=
  w.heap.size ≤ w'.heap.size ∧ (∀ x, x < w.heap.size → x ≠ b → ¬ Row w b x → w'.heap[x]? = w.heap[x]?) ∧ ∀ x, Row w' b x → Row w b x ∨ w.heap.size ≤ x
theorem Fr.own {w w' : World} {b : Nat} {α : Type} {enc : α → List Value} {k : Nat} {e : TypeId} {base : Nat} {v : Value} {l : List α} (h : Fr w b w') (hown : Own enc k e w base v l) (hb : v.ownBlock ≠ some b) (hr : ∀ x, v.ownBlock = some x → ¬ Row w b x) : Own enc k e w' base v l :=
  hown.keep fun x hx => h.2.1 x (hown.lt x hx).2 (fun e => hb (by rw [hx, e])) (hr x hx)
theorem Fr.apart {w w' : World} {b : Nat} {α : Type} {enc : α → List Value} {k : Nat} {e : TypeId} {base : Nat} {v : Value} {l : List α} (h : Fr w b w') (hown : Own enc k e w base v l) (hr : ∀ x, v.ownBlock = some x → ¬ Row w b x) : ∀ x, v.ownBlock = some x → ¬ Row w' b x :=
  fun x hx hrow => (h.2.2 x hrow).elim (hr x hx) (fun hle => by have := (hown.lt x hx).2; omega)

set_option maxHeartbeats 400000 in
theorem new_ok (w : World) : Calls Try.prog 17 #[] w fun e w' => e = .returned (.pointer (some ⟨w.heap.size, 0, none⟩)) ∧ w' = w.alloc (.cells #[.slice none 0 0, .int .i64 0] 52) := by
  go_enter Try.func17, Try.ntmps17
  go_wp2
  go_ret
  exact ⟨rfl, rfl⟩

set_option maxHeartbeats 400000 in
theorem len_ok (w : World) (base b : Nat) (l : List Ev) (past : Int) (h : Trl w base b l past) :
    Calls Try.prog 15 #[.pointer (some ⟨b, 0, none⟩)] w fun e w' => e = .returned (.int .i64 l.length) ∧ w' = w := by
  obtain ⟨s, h1, h2, h3⟩ := h
  obtain ⟨A, c, rfl⟩ := h3.form
  have c0 := h1.is 0 rfl
  clear h1 h3
  go_enter Try.func15, Try.ntmps15
  go_wp2
  go_ret
  exact ⟨rfl, rfl⟩

set_option maxHeartbeats 400000 in
theorem past_ok (w : World) (base b : Nat) (l : List Ev) (past : Int) (h : Trl w base b l past) :
    Calls Try.prog 21 #[.pointer (some ⟨b, 0, none⟩)] w fun e w' => e = .returned (.int .i64 past) ∧ w' = w := by
  obtain ⟨s, h1, h2, h3⟩ := h
  have c1 := h1.is 1 rfl
  clear h1 h3
  go_enter Try.func21, Try.ntmps21
  go_wp2
  go_ret
  exact ⟨rfl, rfl⟩

set_option maxHeartbeats 400000 in
theorem skip_yes (w : World) (base b : Nat) (l : List Ev) (past n : Int) (h : Trl w base b l past) (hp : 0 ≤ past) (hp1 : past ≤ 4611686018427387903) (h0 : 0 ≤ n) (hn : n ≤ 4611686018427387903 - past) :
    Calls Try.prog 22 #[.pointer (some ⟨b, 0, none⟩), .int .i64 n] w fun e w' => e = .returned (.bool true) ∧ Trl w' base b l (past + n) ∧ Below base w w' := by
  obtain ⟨s, h1, h2, h3⟩ := h
  have c1 := h1.is 1 rfl
  have f1 := h1.frozen 1
  have H1 := Lib.hid h1
  clear h1
  go_enter Try.func22, Try.ntmps22
  go_wp2
  go_ret
  exact ⟨rfl, ⟨s, H1.out.put 1 _, h2, h3.set _ (h3.ne_blk H1.out (by decide))⟩, (Below.refl _ _).setCell (by simpa using h2) _⟩

set_option maxHeartbeats 400000 in
theorem skip_no (w : World) (base b : Nat) (l : List Ev) (past n : Int) (h : Trl w base b l past) (hp : 0 ≤ past) (hp1 : past ≤ 4611686018427387903) (hn : n < 0 ∨ 4611686018427387903 - past < n) :
    Calls Try.prog 22 #[.pointer (some ⟨b, 0, none⟩), .int .i64 n] w fun e w' => e = .returned (.bool false) ∧ w' = w := by
  obtain ⟨s, h1, h2, h3⟩ := h
  have c1 := h1.is 1 rfl
  have f1 := h1.frozen 1
  have H1 := Lib.hid h1
  clear h1
  by_cases h0 : n < 0
  · go_enter Try.func22, Try.ntmps22
    go_wp2
    all_goals (go_ret; exact ⟨rfl, rfl⟩)
  · have h9 : 4611686018427387903 - past < n := by omega
    clear hn
    go_enter Try.func22, Try.ntmps22
    go_wp2
    all_goals (go_ret; exact ⟨rfl, rfl⟩)

def PutPost (w : World) (base b : Nat) (l : List Ev) (past : Int) (e : Ending) (w' : World) : Prop := e = .returned (.bool true) ∧ Trl w' base b l past ∧ Below base w w' ∧ Fr w b w'

set_option maxHeartbeats 400000 in
theorem put_ok (w : World) (base b : Nat) (l : List Ev) (past : Int) (x : Ev) (h : Trl w base b l past) (hlen : l.length ≤ 1000) :
    Calls Try.prog 18 #[.pointer (some ⟨b, 0, none⟩), evV x] w (PutPost w base b (l ++ [x]) past) := by
  obtain ⟨s, h1, h2, h3⟩ := h
  obtain ⟨A, c, rfl⟩ := h3.form
  have c0 := h1.is 0 rfl
  have f0 := h1.frozen 0
  have hlt := h1.lt
  have hne := h3.ne_blk h1 (by decide)
  have hrow : ∀ y, Row w b y ↔ (Value.slice A l.length c).ownBlock = some y := fun y => by
    unfold Row
    rw [c0]
    exact ⟨fun ⟨s, e, h⟩ => by cases e; exact h, fun h => ⟨_, rfl, h⟩⟩
  have HRow := Lib.hid hrow
  have hold : ∀ y, y < w.heap.size → (w.alloc (.cells (evA x) 33)).heap[y]? = w.heap[y]? := fun y hy => Below.heap_alloc w _ y hy
  have H1 := Lib.hid (h1.alloc (.cells (evA x) 33))
  have H3 := Lib.hid (h3.alloc (.cells (evA x) 33))
  have HN := Lib.hid hne
  have cb := Blk.new w 33 (evA x)
  have hB := (Below.refl base w).alloc (by omega) (.cells (evA x) 33)
  have HOld := Lib.hid hold
  clear h1 h3 hne hrow hold
  go_enter Try.func18, Try.ntmps18
  go_wp2
  generalize hW : w.alloc (Obj.cells #[Value.int IntKind.i64 x.user, Value.int IntKind.i64 x.op, Value.int IntKind.i64 x.status, Value.int IntKind.i64 x.tick] 33) = W1 at *
  have hz : W1.heap.size = w.heap.size + 1 := by rw [← hW]; simp
  have HZ := Lib.hid hz
  clear hW hz
  have d0 := H1.out.is 0 rfl
  have e0 := cb.is 0 rfl
  have e1 := cb.is 1 rfl
  have e2 := cb.is 2 rfl
  have e3 := cb.is 3 rfl
  have d1 : (W1.alloc (Obj.cells #[Value.int IntKind.i64 x.user, Value.int IntKind.i64 x.op, Value.int IntKind.i64 x.status, Value.int IntKind.i64 x.tick] 33)).cell? ⟨b, 0, none⟩ = some (.slice A l.length c) := (H1.out.alloc _).is 0 rfl
  clear c0 f0 cb
  go_region_law ((refine step_one ev_elem ev_enc rfl (.tmp 11) (.tmp 13) rfl rfl (Own.alloc H3.out _) x W1.heap.size 1 rfl (Blk.lay (Blk.new _ _ _)) (by unfold maxLen; omega) (by omega) (by simp; have := HZ.out; omega) ?_); intro g' cap w1 hown1 hgrow hat hlt1; have hb1 : Blk w1 b 52 _ := (hgrow.block b (by simp; have := HZ.out; omega) (fun e => HN.out e.symm)).trans (Blk.alloc H1.out _); have g0 := hb1.is 0 rfl; have g1 := hb1.frozen 0)
  all_goals
    go_wp2
    go_ret
    have hz := HZ.out
    refine ⟨rfl, ⟨_, hb1.put 0 _, h2, hown1.set _ (hown1.ne_blk hb1 (by decide))⟩, ((hB.alloc (by omega) _).drew.grown hgrow (by simp; omega) (fun k hk => (H3.out.lt k hk).1)).setCell (by simpa using h2) _, ?_, ?_, ?_⟩
    · have := hgrow.size
      simp at this ⊢
      omega
    · intro y hy hyb hyr
      refine (Below.heap_setCell _ _ _ _ hyb).trans ((hgrow.block y (by simp; omega) (fun e => hyr ((HRow.out y).2 e.symm))).trans ?_)
      exact (Below.heap_alloc W1 _ y (by omega)).trans (HOld.out y hy)
    · rintro y ⟨s, hs, hsy⟩
      have hs' := (hb1.put 0 (.slice (some ⟨g', 0, none⟩) (l.length + 1) cap)).is 0 rfl
      rw [hs'] at hs
      cases hs
      have hgy : g' = y := by simpa [Value.ownBlock] using hsy
      subst hgy
      rcases hat with hat | hat
      · exact .inl ((HRow.out g').2 hat)
      · right
        rw [hat]
        simp
        omega

@[go_sem] theorem eqnil22 (A : Option Addr) (n c : Nat) (w : World) : (binOp .eql 22 (.slice A n c) (.slice none 0 0)).run Try.prog w = .ok (.bool A.isNone) w := Lib.run_eql_slice_nil w 22 33 A n c 0 0 Try.underlying22

set_option maxHeartbeats 400000 in
theorem clone_ok (l : List Ev) (s : Value) (w : World) (B : Nat) (hs : Sl evC w B s l) (hB : B ≤ w.heap.size) (hlen : l.length ≤ 1000) :
    Calls Try.prog 25 #[s] w (GivesEv w l) := by
  obtain ⟨A, ca, rfl, h1, h2, h3⟩ := hs
  unfold maxLen at h2
  cases A with
  | none =>
    have h0 : l = [] := by
      cases l with
      | nil => rfl
      | cons a l => obtain ⟨b, off, h, _⟩ := h3 (by simp); cases h
    subst h0
    go_enter Try.func25, Try.ntmps25
    go_wp2
    go_ret
    exact ⟨_, rfl, Own.nil, Below.refl _ _⟩
  | some ad =>
    obtain ⟨i, z, hi, hz, hsz, hby, hzs⟩ := ev_elem.inf
    have hmade := World.ownsRow_made (w := w) (base := w.heap.size) (e := 33) (size := 4) #[] 0 (Nat.le_refl _) (by unfold maxLen; omega) rfl
    have hB1 := (Below.refl w.heap.size w).alloc (Nat.le_refl _) (.cells #[] 33)
    have hlay : ∀ j u, (l.flatMap evC)[j]? = some u → (w.alloc (.cells #[] 33)).cell? (ad.add j) = some u := fun j u hu => by
      have hl : 0 < l.length := by
        cases l with
        | nil => simp at hu
        | cons a l => simp
      obtain ⟨b, off, hA, hb, hc⟩ := h3 hl
      obtain rfl : ad = _ := Option.some.inj hA
      have hadd : (⟨b, off, none⟩ : Addr).add j = ⟨b, off + j, none⟩ := by unfold Addr.add; split <;> simp_all
      rw [hadd]
      exact hc.of_heap (Below.heap_alloc w _ b (by omega)) j u hu
    have HL := Lib.hid hlay
    have HM := Lib.hid hmade
    have HS := Lib.hid hsz
    have HZ := Lib.hid hzs
    clear hlay hmade h3 hsz hzs
    go_enter Try.func25, Try.ntmps25
    go_wp2_with (at_builtin; refine wpList_append_own _ rfl (.tmp 5) (.tmp 6) 22 rfl w.heap.size 33 i z 4 32 Try.underlying22 hi hz HS.out hby HZ.out (by omega) _ 0 [] rfl HM.out ad l.length ca (l.flatMap evC) rfl (flat_length evC_len l) HL.out (ev_enc.flat l) (by unfold maxLen; omega) (by omega) (by simp) ?_; intro v' w1 hown hgrow _)
    go_ret
    simp only [Nat.zero_add, List.nil_append] at hown
    exact ⟨_, rfl, hown, hB1.grown hgrow (by simp) (fun k hk => by change some w.heap.size = some k at hk; injection hk with hk; omega)⟩

theorem Trl.sl {w : World} {base b : Nat} {l : List Ev} {past : Int} (h : Trl w base b l past) : ∃ A c, w.cell? ⟨b, 0, none⟩ = some (.slice A l.length c) ∧ Sl evC w w.heap.size (.slice A l.length c) l := by
  obtain ⟨s, h1, h2, h3⟩ := h
  obtain ⟨A, c, rfl⟩ := h3.form
  exact ⟨A, c, h1.is 0 rfl, h3.sl⟩

set_option maxHeartbeats 400000 in
theorem left_ok (w : World) (base b : Nat) (l : List Ev) (past : Int) (h : Trl w base b l past) (hlen : l.length ≤ 1000) :
    Calls Try.prog 20 #[.pointer (some ⟨b, 0, none⟩)] w (GivesEv w l) := by
  obtain ⟨A, c, c0, hs⟩ := h.sl
  clear h
  go_enter Try.func20, Try.ntmps20
  go_wp2_with (go_at_call 25; refine (clone_ok l _ _ _ hs (Nat.le_refl _) hlen).mono ?_; rintro e w' ⟨v, rfl, hown, hbel⟩)
  go_ret
  exact ⟨v, rfl, hown, hbel⟩

/-- What a drain takes, and what stays. -/
def takes (l : List Ev) (most : Int) : Nat := (min most l.length).toNat
def DrainPost (w : World) (base b : Nat) (l : List Ev) (past most : Int) (e : Ending) (w' : World) : Prop :=
  ∃ v, e = .returned v ∧ Own evC 4 33 w' base v (l.take (takes l most)) ∧ Trl w' base b (l.drop (takes l most)) (past + min (takes l most : Int) (4611686018427387903 - past)) ∧ Below base w w' ∧ Fr w b w' ∧ (∀ x, v.ownBlock = some x → w.heap.size ≤ x ∧ ¬ Row w' b x)

theorem takes_eq (l : List Ev) (most : Int) : imax 0 (imin most l.length) = (takes l most : Nat) := by rw [imax_eq, imin_eq]; unfold takes; omega
theorem takes_le (l : List Ev) (most : Int) : takes l most ≤ l.length := by unfold takes; omega

def DrainN (w : World) (base b : Nat) (l : List Ev) (past : Int) (n : Nat) (e : Ending) (w' : World) : Prop :=
  ∃ v, e = .returned v ∧ Own evC 4 33 w' base v (l.take n) ∧ Trl w' base b (l.drop n) (past + min (n : Int) (4611686018427387903 - past)) ∧ Below base w w' ∧ Fr w b w' ∧ (∀ x, v.ownBlock = some x → w.heap.size ≤ x ∧ ¬ Row w' b x)

set_option maxHeartbeats 400000 in
theorem drain_n (w : World) (base b : Nat) (l : List Ev) (past most : Int) (n : Nat) (hn : imax 0 (imin most l.length) = (n : Nat)) (hle : n ≤ l.length) (h : Trl w base b l past) (hlen : l.length ≤ 1000) (hp : 0 ≤ past) (hp1 : past ≤ 4611686018427387903) :
    Calls Try.prog 19 #[.pointer (some ⟨b, 0, none⟩), .int .i64 most] w (DrainN w base b l past n) := by
  rcases Nat.eq_zero_or_pos n with rfl | hpos
  · have hn0 : imax 0 (imin most l.length) = 0 := by simpa using hn
    clear hn
    have h' := Lib.hid h
    go_enter Try.func19, Try.ntmps19
    go_wp2_with (go_at_call 15; refine (len_ok w base b l past h'.out).mono ?_; rintro e w' ⟨rfl, rfl⟩)
    go_ret
    exact ⟨_, rfl, Own.nil, by simpa [show min (0 : Int) (4611686018427387903 - past) = 0 by omega] using h, Below.refl _ _, ⟨Nat.le_refl _, fun _ _ _ _ => rfl, fun _ h => .inl h⟩, fun x hx => by simp [Value.ownBlock] at hx⟩
  · obtain ⟨s, h1, h2, h3⟩ := h
    obtain ⟨g, c, rfl, hbg, hlt⟩ := World.ownsRow.form h3 (by omega)
    have c0 := h1.is 0 rfl
    have hcap : l.length ≤ c := by obtain ⟨A', c', e, h, _⟩ := h3.sl; injection e with e1 e2 e3; omega
    have hbw := h1.lt
    have H1 := Lib.hid h1
    have H3 := Lib.hid h3
    clear h1 h3
    go_enter Try.func19, Try.ntmps19
    go_wp2_with (go_at_call 15; refine (len_ok w base b l past ⟨_, H1.out, h2, H3.out⟩).mono ?_; rintro e w' ⟨rfl, rfl⟩)
    have hsl := Lib.hid (Own.sl H3.out)
    refine (clone_ok (l.take n) _ _ _ (hsl.out.pre ev_enc hle) (Nat.le_refl _) (by simp; omega)).mono ?_
    rintro e w1 ⟨v, rfl, hown1, hb1⟩
    have hbw1 := hb1.size
    have H1b := Lib.hid (H1.out.below hb1 hbw)
    have H3b := Lib.hid (H3.out.keep (w' := w1) fun x hx => hb1.block x (H3.out.lt x hx).2)
    have HO1 := Lib.hid hown1
    have HB1 := Lib.hid hb1
    have c1 := H1b.out.is 0 rfl
    clear c0 hb1 hown1
    go_wp2_with fail
    all_goals
      refine (clone_ok (l.drop n) _ _ w1.heap.size (by first | exact H3b.out.sl.suf_full ev_enc hle ‹_› | (have := H3b.out.sl.suf_rest ev_enc hle ‹_›; rwa [Nat.zero_add] at this)) (Nat.le_refl _) (by simp; omega)).mono ?_
      rintro e w2 ⟨v2, rfl, hown2, hb2⟩
      obtain ⟨A2, k2, hv2⟩ := hown2.form
      rw [List.length_drop] at hv2
      subst hv2
      have hbw2 := hb2.size
      have H1c := Lib.hid (H1b.out.below hb2 (by omega))
      have HO2 := Lib.hid hown2
      have HB2 := Lib.hid hb2
      have c2 := H1c.out.is 0 rfl
      have f2 := H1c.out.frozen 0
      have f3 := H1c.out.frozen 1
      clear c1 hown2 hb2
      go_wp2_with fail
      generalize hW : w2.setCell ⟨b, 0, none⟩ (.slice A2 (l.length - n) k2) = w3
      have H1d := Lib.hid (H1c.out.put 0 (.slice A2 (l.length - n) k2))
      rw [hW] at H1d
      have c4 : w3.cell? ⟨b, 1, none⟩ = some (.int .i64 past) := H1d.out.is 1 rfl
      have f4 := H1d.out.frozen 1
      have HW := Lib.hid hW
      clear hW c2 f2 f3
      have i0 : 0 ≤ imin n (4611686018427387903 - past) := by rw [imin_eq]; omega
      have i1 : imin n (4611686018427387903 - past) ≤ 4611686018427387903 - past := by rw [imin_eq]; omega
      go_region
      all_goals
        go_wp2
        go_ret
        have e0 := imin_eq n (4611686018427387903 - past)
        have hw3 : ∀ x, x ≠ b → w3.heap[x]? = w2.heap[x]? := fun x hx => by rw [← HW.out]; exact Below.heap_setCell _ _ _ _ hx
        have hB3 : Below base w' w3 := by rw [← HW.out]; exact ((HB1.out.mono (by omega)).trans (HB2.out.mono (by omega))).setCell (by simpa using h2) _
        have hrw : ∀ y, Row ((w3.setCell ⟨b, 1, none⟩ (.int .i64 (past + imin n (4611686018427387903 - past))))) b y → w1.heap.size ≤ y := by
          rintro y ⟨s, hs, hsy⟩
          have hs' := (H1d.out.put 1 (.int .i64 (past + imin n (4611686018427387903 - past)))).is 0 rfl
          rw [hs'] at hs
          cases hs
          exact (HO2.out.lt y hsy).1
        refine ⟨v, rfl, ?_, ⟨_, by rw [← e0]; exact H1d.out.put 1 _, h2, ?_⟩, ?_, ⟨?_, ?_, ?_⟩, ?_⟩
        · refine (HO1.out.more (by omega)).keep fun x hx => ?_
          have hxl := HO1.out.lt x hx
          exact (Below.heap_setCell _ _ _ _ (by simp; omega)).trans ((hw3 x (by omega)).trans (HB2.out.block x hxl.2))
        · refine (HO2.out.more (by omega)).keep fun x hx => ?_
          have hxl := HO2.out.lt x hx
          exact (Below.heap_setCell _ _ _ _ (by simp; omega)).trans (hw3 x (by omega))
        · first | exact (hB3.setCell (by simpa using h2) _).drew | exact hB3.drew.setCell (by simpa using h2) _
        · have := hB3.size
          simp
          exact this
        · intro y hy hyb _
          exact (Below.heap_setCell _ _ _ _ hyb).trans ((hw3 y hyb).trans ((HB2.out.block y (by omega)).trans (HB1.out.block y hy)))
        · intro y hy
          exact .inr (Nat.le_trans hbw1 (hrw y hy))
        · intro y hy
          have := HO1.out.lt y hy
          exact ⟨this.1, fun hr => by have := hrw y hr; omega⟩

theorem drain_ok (w : World) (base b : Nat) (l : List Ev) (past most : Int) (h : Trl w base b l past) (hlen : l.length ≤ 1000) (hp : 0 ≤ past) (hp1 : past ≤ 4611686018427387903) :
    Calls Try.prog 19 #[.pointer (some ⟨b, 0, none⟩), .int .i64 most] w (DrainPost w base b l past most) :=
  (drain_n w base b l past most _ (takes_eq l most) (takes_le l most) h hlen hp hp1).mono fun _ _ h => h
end Go.Proofs.Ytnkgdabapgdiaaa
