/-
  What an answer's line is read as: itself. No program here. Conditions: none.
-/
import Derived.Test.YtbfbcbhnknhgnaaDoorAnswer
import Derived.Test.YtbfbcbhnknhgnaaDoorReadLaw
namespace Go.Proofs.YtbfbcbhnknhgnaaDoor
open Go.RowKit

abbrev secretL : List UInt8 := [115, 101, 99, 114, 101, 116]
abbrev recordL : List UInt8 := [114, 101, 99, 111, 114, 100]
abbrev boxL : List UInt8 := [98, 111, 120]
abbrev seenL : List UInt8 := [115, 101, 101, 110]
abbrev eventL : List UInt8 := [101, 118, 101, 110, 116]
abbrev ASt := Ans × RSt
/-- Four numbers. -/
structure Four where
  a : Nat
  b : Nat
  c : Nat
  d : Nat
  s : RSt
def r4 (s : RSt) : Four := ⟨(rNum s).1, (rNum (rNum s).2).1, (rNum (rNum (rNum s).2).2).1, (rNum (rNum (rNum (rNum s).2).2).2).1, (rNum (rNum (rNum (rNum s).2).2).2).2⟩
def pSec (p : ASt) : ASt := ({ p.1 with secret := (rSec p.2).1 }, (rSec p.2).2)
def pRec (p : ASt) : ASt := ({ p.1 with id := ((r4 p.2).a : Nat), ax := ((r4 p.2).b : Nat), ay := ((r4 p.2).c : Nat), label := ((r4 p.2).d : Nat) }, (r4 p.2).s)
def pBox (p : ASt) : ASt := ({ p.1 with x0 := ((r4 p.2).a : Nat), y0 := ((r4 p.2).b : Nat), x1 := ((r4 p.2).c : Nat), y1 := ((r4 p.2).d : Nat) }, (r4 p.2).s)
def rSn (s : RSt) : Sn × RSt := (⟨((rNum s).1 : Nat), ((rNum (rNum s).2).1 : Nat), ((r4 (rNum (rNum s).2).2).a : Nat), ((r4 (rNum (rNum s).2).2).b : Nat), ((r4 (rNum (rNum s).2).2).c : Nat), ((r4 (rNum (rNum s).2).2).d : Nat)⟩, (r4 (rNum (rNum s).2).2).s)
def pSeen (p : ASt) : ASt := ({ p.1 with seen := p.1.seen ++ [(rSn p.2).1] }, (rSn p.2).2)
def rEv (s : RSt) : Ev × RSt := (⟨((r4 s).a : Nat), ((r4 s).b : Nat), ((r4 s).c : Nat), ((r4 s).d : Nat)⟩, (r4 s).s)
def pEv (p : ASt) : ASt := ({ p.1 with events := p.1.events ++ [(rEv p.2).1] }, (rEv p.2).2)
def pNo (p : ASt) : ASt := (p.1, (p.2.1, true))
def rPart (p : ASt) : ASt :=
  if (rW p.2).1 = secretL then pSec (p.1, (rW p.2).2)
  else if (rW p.2).1 = recordL then pRec (p.1, (rW p.2).2)
  else if (rW p.2).1 = boxL then pBox (p.1, (rW p.2).2)
  else if (rW p.2).1 = seenL then pSeen (p.1, (rW p.2).2)
  else if (rW p.2).1 = eventL then pEv (p.1, (rW p.2).2)
  else pNo (p.1, (rW p.2).2)
def pLoop : Nat → ASt → ASt
  | 0, p => p
  | n + 1, p => if p.2.1 = [] ∨ p.2.2 = true then p else pLoop n (rPart p)
def pAll (p : ASt) : ASt := pLoop p.2.1.length p
abbrev zeroA : Ans := ⟨0, 0, 0, 0, 0, 0, 0, 0, 0, 0, [], []⟩
def readT (l : List UInt8) : ASt := pAll ({ zeroA with status := atF (rW (splitL l, false)).1 0 stsL }, (rW (splitL l, false)).2)
/-- What ReadAnswer hands back. -/
def readA (l : List UInt8) : Ans × Int := if (readT l).2.2 = false ∧ mayB (readT l).1 = true ∧ ansT (readT l).1 = l then ((readT l).1, 0) else (zeroA, 60)

theorem rW_less (s : RSt) : (rW s).2.1.length ≤ s.1.length := by
  obtain ⟨ws, b⟩ := s
  cases ws <;> simp [rW]
theorem rW_cost (s : RSt) (h : s.1 ≠ []) : (rW s).2.1.length + 1 = s.1.length ∧ (rW s).2.2 = s.2 := by
  obtain ⟨ws, b⟩ := s
  cases ws
  · exact absurd rfl h
  · exact ⟨rfl, rfl⟩
/-- Words used up, while nothing is bad. -/
def Cost (k : Nat) (s s' : RSt) : Prop := s'.1.length ≤ s.1.length ∧ (s'.2 = false → s.2 = false ∧ s'.1.length + k ≤ s.1.length)
theorem Cost.trans {j k : Nat} {a b c : RSt} (h : Cost j a b) (g : Cost k b c) : Cost (j + k) a c :=
  ⟨Nat.le_trans g.1 h.1, fun e => let ⟨e1, h1⟩ := g.2 e; let ⟨e2, h2⟩ := h.2 e1; ⟨e2, by omega⟩⟩
theorem Cost.less {j k : Nat} {a b : RSt} (h : Cost j a b) (e : k ≤ j) : Cost k a b := ⟨h.1, fun x => ⟨(h.2 x).1, by have := (h.2 x).2; omega⟩⟩
theorem rW_Cost (s : RSt) : Cost 1 s (rW s).2 := by
  obtain ⟨ws, b⟩ := s
  cases ws
  · exact ⟨Nat.le_refl _, fun h => by cases h⟩
  · exact ⟨by simp [rW], fun h => ⟨h, by simp [rW]⟩⟩
theorem rNum_Cost (s : RSt) : Cost 1 s (rNum s).2 := by
  have h := rW_Cost s
  unfold rNum rLong
  split
  · exact ⟨h.1, fun e => by cases e⟩
  · refine ⟨h.1, fun e => h.2 ?_⟩
    simp only [Bool.or_eq_false_iff] at e
    exact e.1
theorem rSec_Cost (s : RSt) : Cost 1 s (rSec s).2 := by
  have h := rW_Cost s
  unfold rSec
  refine ⟨h.1, fun e => h.2 ?_⟩
  simp only [Bool.or_eq_false_iff] at e
  exact e.1
theorem r4_Cost (s : RSt) : Cost 4 s (r4 s).s := by
  unfold r4
  dsimp only
  have h1 := rNum_Cost s
  obtain ⟨a, ha⟩ : ∃ a, a = rNum s := ⟨_, rfl⟩
  rw [← ha] at h1 ⊢
  have h2 := rNum_Cost a.2
  obtain ⟨b, hb⟩ : ∃ b, b = rNum a.2 := ⟨_, rfl⟩
  rw [← hb] at h2 ⊢
  have h3 := rNum_Cost b.2
  obtain ⟨c, hc⟩ : ∃ c, c = rNum b.2 := ⟨_, rfl⟩
  rw [← hc] at h3 ⊢
  exact ((h1.trans h2).trans h3).trans (rNum_Cost c.2)
theorem rSn_Cost (s : RSt) : Cost 6 s (rSn s).2 := by
  unfold rSn
  dsimp only
  have h1 := rNum_Cost s
  obtain ⟨a, ha⟩ : ∃ a, a = rNum s := ⟨_, rfl⟩
  rw [← ha] at h1 ⊢
  have h2 := rNum_Cost a.2
  obtain ⟨b, hb⟩ : ∃ b, b = rNum a.2 := ⟨_, rfl⟩
  rw [← hb] at h2 ⊢
  exact (h1.trans h2).trans (r4_Cost b.2)
theorem rEv_Cost (s : RSt) : Cost 4 s (rEv s).2 := r4_Cost s
theorem pSec_2 (q : ASt) : (pSec q).2 = (rSec q.2).2 := by
  unfold pSec
  dsimp only
theorem pRec_2 (q : ASt) : (pRec q).2 = (r4 q.2).s := by
  unfold pRec
  dsimp only
theorem pBox_2 (q : ASt) : (pBox q).2 = (r4 q.2).s := by
  unfold pBox
  dsimp only
theorem pSeen_2 (q : ASt) : (pSeen q).2 = (rSn q.2).2 := by
  unfold pSeen
  dsimp only
theorem pEv_2 (q : ASt) : (pEv q).2 = (rEv q.2).2 := by
  unfold pEv
  dsimp only
theorem pNo_2 (q : ASt) : (pNo q).2 = (q.2.1, true) := by
  unfold pNo
  dsimp only
theorem pSeen_n (q : ASt) : (pSeen q).1.seen.length = q.1.seen.length + 1 := by
  unfold pSeen
  dsimp only
  rw [List.length_append, List.length_singleton]
theorem pEv_n (q : ASt) : (pEv q).1.events.length = q.1.events.length + 1 := by
  unfold pEv
  dsimp only
  rw [List.length_append, List.length_singleton]
theorem rPart_cases (p : ASt) (P : ASt → Prop) (h : ∀ q : ASt, q.1 = p.1 → q.2 = (rW p.2).2 → P (pSec q) ∧ P (pRec q) ∧ P (pBox q) ∧ P (pSeen q) ∧ P (pEv q) ∧ P (pNo q)) : P (rPart p) := by
  obtain ⟨h1, h2, h3, h4, h5, h6⟩ := h (p.1, (rW p.2).2) rfl rfl
  unfold rPart
  split
  · exact h1
  · split
    · exact h2
    · split
      · exact h3
      · split
        · exact h4
        · split
          · exact h5
          · exact h6
theorem rPart_less (p : ASt) (h : p.2.1 ≠ []) : (rPart p).2.1.length < p.2.1.length := by
  have hw := (rW_cost p.2 h).1
  refine rPart_cases p (fun r => r.2.1.length < p.2.1.length) fun q _ e2 => ?_
  have hq : q.2.1.length < p.2.1.length := by rw [e2]; omega
  have a1 := (rSec_Cost q.2).1
  have a2 := (r4_Cost q.2).1
  have a3 := (rSn_Cost q.2).1
  have a4 := (rEv_Cost q.2).1
  rw [pSec_2, pRec_2, pBox_2, pSeen_2, pEv_2, pNo_2]
  dsimp only
  exact ⟨by omega, by omega, by omega, by omega, by omega, hq⟩
theorem pLoop_all : ∀ (n : Nat) (p : ASt), p.2.1.length ≤ n → ∀ m, p.2.1.length ≤ m → pLoop n p = pLoop m p
  | 0, p, h, m, _ => by
    have h0 : p.2.1 = [] := List.eq_nil_of_length_eq_zero (by omega)
    cases m
    · rfl
    · simp [pLoop, h0]
  | n + 1, p, h, 0, h' => by
    have h0 : p.2.1 = [] := List.eq_nil_of_length_eq_zero (by omega)
    simp [pLoop, h0]
  | n + 1, p, h, m + 1, h' => by
    unfold pLoop
    split
    · rfl
    · rename_i hc
      have hl := rPart_less p (fun e => hc (.inl e))
      exact pLoop_all n _ (by omega) m (by omega)
theorem pAll_step (p : ASt) (h : p.2.1 ≠ []) (hb : p.2.2 = false) : pAll p = pAll (rPart p) := by
  have hl := rPart_less p h
  unfold pAll
  obtain ⟨n, hn⟩ : ∃ n, p.2.1.length = n + 1 := ⟨p.2.1.length - 1, by omega⟩
  rw [hn, pLoop, if_neg (by rw [hb]; simp [h])]
  exact pLoop_all _ _ (by omega) _ (Nat.le_refl _)
theorem pAll_stop (p : ASt) (h : p.2.1 = [] ∨ p.2.2 = true) : pAll p = p := by
  unfold pAll
  cases p.2.1.length
  · rfl
  · rw [pLoop, if_pos h]
/-- How many items there are, by the words that were used up. -/
def Cnt (N : Nat) (p : ASt) : Prop := 7 * p.1.seen.length + 5 * p.1.events.length + p.2.1.length ≤ N + (if p.2.2 = true then 6 else 0)
theorem cnt_step {N n m k k' : Nat} {b : Bool} (c : Nat) (h : 7 * n + 5 * m + k + 1 ≤ N) (h1 : k' ≤ k) (h2 : b = false → k' + c ≤ k) (hc : c ≤ 6) : 7 * n + 5 * m + (c + 1) + k' ≤ N + (if b = true then 6 else 0) := by
  cases b
  · have := h2 rfl
    rw [if_neg (by decide)]
    omega
  · rw [if_pos rfl]
    omega
theorem Cnt.part {N : Nat} {p : ASt} (h : Cnt N p) (h0 : p.2.1 ≠ []) (hb : p.2.2 = false) : Cnt N (rPart p) := by
  obtain ⟨hw, hf⟩ := rW_cost p.2 h0
  unfold Cnt at h
  rw [hb, if_neg (by decide)] at h
  refine rPart_cases p (Cnt N) fun q e1 e2 => ?_
  have hq : 7 * q.1.seen.length + 5 * q.1.events.length + q.2.1.length + 1 ≤ N := by rw [e1, e2]; omega
  have a1 := rSec_Cost q.2
  have a2 := r4_Cost q.2
  have a3 := rSn_Cost q.2
  have a4 := rEv_Cost q.2
  clear hw hf h e1 e2
  unfold Cnt
  rw [pSec_2, pRec_2, pBox_2, pSeen_2, pEv_2, pNo_2, pSeen_n, pEv_n]
  refine ⟨?_, ?_, ?_, ?_, ?_, ?_⟩
  · have b1 := a1.1
    have c1 : (pSec q).1.seen = q.1.seen := by unfold pSec; dsimp only
    have c2 : (pSec q).1.events = q.1.events := by unfold pSec; dsimp only
    rw [c1, c2]
    omega
  · have b1 := a2.1
    have c1 : (pRec q).1.seen = q.1.seen := by unfold pRec; dsimp only
    have c2 : (pRec q).1.events = q.1.events := by unfold pRec; dsimp only
    rw [c1, c2]
    omega
  · have b1 := a2.1
    have c1 : (pBox q).1.seen = q.1.seen := by unfold pBox; dsimp only
    have c2 : (pBox q).1.events = q.1.events := by unfold pBox; dsimp only
    rw [c1, c2]
    omega
  · have c2 : (pSeen q).1.events = q.1.events := by unfold pSeen; dsimp only
    rw [c2]
    have := cnt_step 6 hq a3.1 (fun e => (a3.2 e).2) (Nat.le_refl _)
    omega
  · have c2 : (pEv q).1.seen = q.1.seen := by unfold pEv; dsimp only
    rw [c2]
    have := cnt_step 4 hq a4.1 (fun e => (a4.2 e).2) (by omega)
    omega
  · dsimp only
    have c1 : (pNo q).1.seen = q.1.seen := by unfold pNo; dsimp only
    have c2 : (pNo q).1.events = q.1.events := by unfold pNo; dsimp only
    rw [c1, c2]
    omega
theorem Cnt.items {N : Nat} {p : ASt} (h : Cnt N p) (hN : N ≤ 20001) : p.1.seen.length ≤ 10000 ∧ p.1.events.length ≤ 10000 := by
  unfold Cnt at h
  split at h <;> omega
theorem part_sec (p : ASt) (h : p.1.secret < 18446744073709551616) : (rPart p).1.secret < 18446744073709551616 := by
  refine rPart_cases p (fun r => r.1.secret < 18446744073709551616) fun q e1 _ => ?_
  rw [← e1] at h
  unfold pSec pRec pBox pSeen pEv pNo
  dsimp only
  exact ⟨rhex_lt _, h, h, h, h, h⟩
theorem pLoop_keep (P : ASt → Prop) (hP : ∀ p, p.2.1 ≠ [] → p.2.2 = false → P p → P (rPart p)) : ∀ (n : Nat) (p : ASt), P p → P (pLoop n p)
  | 0, _, h => h
  | n + 1, p, h => by
    unfold pLoop
    split
    · exact h
    · rename_i hc
      refine pLoop_keep P hP n _ (hP p (fun e => hc (.inl e)) ?_ h)
      cases hb : p.2.2
      · rfl
      · exact absurd (.inr hb) hc
theorem splitL_count (l : List UInt8) : (splitL l).length ≤ l.length + 1 := (splitL_few l).1
theorem readT_items (l : List UInt8) (hl : l.length ≤ 20000) : (readT l).1.seen.length ≤ 10000 ∧ (readT l).1.events.length ≤ 10000 ∧ (readT l).1.secret < 18446744073709551616 := by
  have h1 := splitL_count l
  have h2 := rW_less (splitL l, false)
  have h2 : (rW (splitL l, false)).2.1.length ≤ (splitL l).length := h2
  have hc : Cnt 20001 (readT l) := pLoop_keep (Cnt 20001) (fun p h0 hb h => h.part h0 hb) _ _ (by unfold Cnt; simp only [List.length_nil]; split <;> omega)
  have hs : (readT l).1.secret < 18446744073709551616 := pLoop_keep (fun p => p.1.secret < 18446744073709551616) (fun p _ _ h => part_sec p h) _ _ (by show 0 < _; decide)
  exact ⟨(hc.items (Nat.le_refl _)).1, (hc.items (Nat.le_refl _)).2, hs⟩

theorem ns_ok {ns : List Int} (h : nsB ns = false) : ∀ n ∈ ns, 0 ≤ n ∧ n ≤ 4611686018427387903 := by
  intro n hn
  unfold nsB at h
  rw [List.any_eq_false] at h
  have := h n hn
  unfold tooB at this
  simp at this
  omega
theorem rNum_int (n : Int) (h : 0 ≤ n ∧ n ≤ 4611686018427387903) (r : List (List UInt8)) (b : Bool) : rNum (txt (u64n n) :: r, b) = (n.toNat, (r, b)) := by
  obtain ⟨m, rfl⟩ : ∃ m : Nat, n = (m : Int) := ⟨n.toNat, by omega⟩
  exact rNum_txt m (by omega) r b
theorem r4_txt (a b c d : Int) (h : nsB [a, b, c, d] = false) (r : List (List UInt8)) (x : Bool) : r4 (nsW [a, b, c, d] ++ r, x) = ⟨a.toNat, b.toNat, c.toNat, d.toNat, (r, x)⟩ := by
  have hn := ns_ok h
  have e1 := rNum_int a (hn a (by simp))
  have e2 := rNum_int b (hn b (by simp))
  have e3 := rNum_int c (hn c (by simp))
  have e4 := rNum_int d (hn d (by simp))
  unfold r4
  simp only [nsW, List.map_cons, List.map_nil, List.cons_append, List.nil_append, e1, e2, e3, e4]
theorem rSn_txt (s : Sn) (h : snB s = false) (r : List (List UInt8)) (x : Bool) : rSn (nsW [s.id, s.level] ++ nsW [s.x0, s.y0, s.x1, s.y1] ++ r, x) = (s, (r, x)) := by
  unfold snB at h
  simp only [Bool.or_eq_false_iff] at h
  have hn := ns_ok h.1
  have hm := ns_ok h.2
  have e1 := rNum_int s.id (hn _ (by simp))
  have e2 := rNum_int s.level (hn _ (by simp))
  have e3 := r4_txt s.x0 s.y0 s.x1 s.y1 h.2 r x
  have b1 := hn s.id (by simp)
  have b2 := hn s.level (by simp)
  have b3 := hm s.x0 (by simp)
  have b4 := hm s.y0 (by simp)
  have b5 := hm s.x1 (by simp)
  have b6 := hm s.y1 (by simp)
  have e0 : nsW [s.id, s.level] ++ nsW [s.x0, s.y0, s.x1, s.y1] ++ r = txt (u64n s.id) :: txt (u64n s.level) :: (nsW [s.x0, s.y0, s.x1, s.y1] ++ r) := rfl
  unfold rSn
  rw [e0]
  simp only [e1, e2, e3]
  obtain ⟨i, l, a, b, c, d⟩ := s
  simp only [Prod.mk.injEq, Sn.mk.injEq, and_true]
  dsimp only at b1 b2 b3 b4 b5 b6
  omega
theorem rEv_txt (e : Ev) (h : evB e = false) (r : List (List UInt8)) (x : Bool) : rEv (nsW [e.user, e.op, e.status, e.tick] ++ r, x) = (e, (r, x)) := by
  unfold evB at h
  have hn := ns_ok h
  have e3 := r4_txt _ _ _ _ h r x
  have b1 := hn e.user (by simp)
  have b2 := hn e.op (by simp)
  have b3 := hn e.status (by simp)
  have b4 := hn e.tick (by simp)
  unfold rEv
  rw [e3]
  obtain ⟨i, l, a, b⟩ := e
  simp only [Prod.mk.injEq, Ev.mk.injEq, and_true]
  dsimp only at b1 b2 b3 b4
  omega

theorem rPart_at (a : Ans) (w : List UInt8) (r : List (List UInt8)) : rPart (a, (w :: r, false)) =
    if w = secretL then pSec (a, (r, false)) else if w = recordL then pRec (a, (r, false)) else if w = boxL then pBox (a, (r, false)) else if w = seenL then pSeen (a, (r, false)) else if w = eventL then pEv (a, (r, false)) else pNo (a, (r, false)) := rfl
theorem part_secret (a : Ans) (n : Nat) (h : n < 18446744073709551616) (r : List (List UInt8)) : rPart (a, (secretL :: hexT n :: r, false)) = ({ a with secret := n }, (r, false)) := by
  rw [rPart_at, if_pos rfl]
  unfold pSec
  have e := rSec_hex n h r false
  show (({ a with secret := (rSec (hexT n :: r, false)).1 } : Ans), (rSec (hexT n :: r, false)).2) = _
  rw [e]
theorem part_record (a : Ans) (i x y l : Int) (h : nsB [i, x, y, l] = false) (r : List (List UInt8)) : rPart (a, (recordL :: (nsW [i, x, y, l] ++ r), false)) = ({ a with id := i, ax := x, ay := y, label := l }, (r, false)) := by
  have hn := ns_ok h
  have b1 := hn i (by simp)
  have b2 := hn x (by simp)
  have b3 := hn y (by simp)
  have b4 := hn l (by simp)
  have e := r4_txt i x y l h r false
  have hp : rPart (a, (recordL :: (nsW [i, x, y, l] ++ r), false)) = pRec (a, (nsW [i, x, y, l] ++ r, false)) := by
    rw [rPart_at, if_neg (by decide), if_pos rfl]
  rw [hp]
  unfold pRec
  simp only [e]
  rw [Int.toNat_of_nonneg b1.1, Int.toNat_of_nonneg b2.1, Int.toNat_of_nonneg b3.1, Int.toNat_of_nonneg b4.1]
theorem part_box (a : Ans) (i x y l : Int) (h : nsB [i, x, y, l] = false) (r : List (List UInt8)) : rPart (a, (boxL :: (nsW [i, x, y, l] ++ r), false)) = ({ a with x0 := i, y0 := x, x1 := y, y1 := l }, (r, false)) := by
  have hn := ns_ok h
  have b1 := hn i (by simp)
  have b2 := hn x (by simp)
  have b3 := hn y (by simp)
  have b4 := hn l (by simp)
  have e := r4_txt i x y l h r false
  have hp : rPart (a, (boxL :: (nsW [i, x, y, l] ++ r), false)) = pBox (a, (nsW [i, x, y, l] ++ r, false)) := by
    rw [rPart_at, if_neg (by decide), if_neg (by decide), if_pos rfl]
  rw [hp]
  unfold pBox
  simp only [e]
  rw [Int.toNat_of_nonneg b1.1, Int.toNat_of_nonneg b2.1, Int.toNat_of_nonneg b3.1, Int.toNat_of_nonneg b4.1]
theorem part_seen (a : Ans) (s : Sn) (h : snB s = false) (r : List (List UInt8)) : rPart (a, (snW s ++ r, false)) = ({ a with seen := a.seen ++ [s] }, (r, false)) := by
  have e := rSn_txt s h r false
  have h0 : snW s ++ r = seenL :: (nsW [s.id, s.level] ++ nsW [s.x0, s.y0, s.x1, s.y1] ++ r) := rfl
  have hp : rPart (a, (snW s ++ r, false)) = pSeen (a, (nsW [s.id, s.level] ++ nsW [s.x0, s.y0, s.x1, s.y1] ++ r, false)) := by
    rw [h0]
    rw [rPart_at, if_neg (by decide), if_neg (by decide), if_neg (by decide), if_pos rfl]
  rw [hp]
  unfold pSeen
  simp only [e]
theorem part_event (a : Ans) (s : Ev) (h : evB s = false) (r : List (List UInt8)) : rPart (a, (evW s ++ r, false)) = ({ a with events := a.events ++ [s] }, (r, false)) := by
  have e := rEv_txt s h r false
  have h0 : evW s ++ r = eventL :: (nsW [s.user, s.op, s.status, s.tick] ++ r) := rfl
  have hp : rPart (a, (evW s ++ r, false)) = pEv (a, (nsW [s.user, s.op, s.status, s.tick] ++ r, false)) := by
    rw [h0]
    rw [rPart_at, if_neg (by decide), if_neg (by decide), if_neg (by decide), if_neg (by decide), if_pos rfl]
  rw [hp]
  unfold pEv
  simp only [e]
theorem all_seen : ∀ (l : List Sn) (a : Ans) (r : List (List UInt8)), l.any snB = false → pAll (a, (l.flatMap snW ++ r, false)) = pAll ({ a with seen := a.seen ++ l }, (r, false))
  | [], a, r, _ => by simp
  | s :: l, a, r, h => by
    simp only [List.any_cons, Bool.or_eq_false_iff] at h
    rw [List.flatMap_cons, List.append_assoc, pAll_step _ (by simp [snW]) rfl, part_seen a s h.1, all_seen l _ r h.2]
    simp
theorem all_events : ∀ (l : List Ev) (a : Ans), l.any evB = false → pAll (a, (l.flatMap evW, false)) = ({ a with events := a.events ++ l }, ([], false))
  | [], a, _ => by simp [pAll_stop]
  | s :: l, a, h => by
    simp only [List.any_cons, Bool.or_eq_false_iff] at h
    rw [List.flatMap_cons, pAll_step _ (by simp [evW]) rfl, part_event a s h.1, all_events l _ h.2]
    simp
theorem eq4_zero {a b c d : Int} (h : eq4 a b c d 0 0 0 0 = true) : a = 0 ∧ b = 0 ∧ c = 0 ∧ d = 0 := by
  unfold eq4 at h
  exact of_decide_eq_true h
theorem all_parts (a : Ans) (hb : partsB a = false) (hs : a.secret < 18446744073709551616) : pAll ({ zeroA with status := a.status }, (partsW a, false)) = (a, ([], false)) := by
  unfold partsB at hb
  simp only [Bool.or_eq_false_iff] at hb
  obtain ⟨⟨⟨h1, h2⟩, h3⟩, h4⟩ := hb
  have e1 : ∀ r, pAll ({ zeroA with status := a.status }, (secW a ++ r, false)) = pAll ({ zeroA with status := a.status, secret := a.secret }, (r, false)) := fun r => by
    unfold secW
    by_cases h0 : a.secret = 0
    · rw [if_pos h0, h0]
      rfl
    · rw [if_neg h0]
      have := part_secret { zeroA with status := a.status } a.secret hs r
      rw [pAll_step _ (by simp) rfl]
      exact congrArg pAll this
  have e2 : ∀ r, pAll ({ zeroA with status := a.status, secret := a.secret }, (recW a ++ r, false)) = pAll ({ zeroA with status := a.status, secret := a.secret, id := a.id, ax := a.ax, ay := a.ay, label := a.label }, (r, false)) := fun r => by
    unfold recW
    by_cases h0 : eq4 a.id a.ax a.ay a.label 0 0 0 0 = true
    · rw [if_pos h0]
      obtain ⟨g1, g2, g3, g4⟩ := eq4_zero h0
      rw [g1, g2, g3, g4]
      rfl
    · unfold recB at h1
      rw [if_neg h0] at h1 ⊢
      have := part_record { zeroA with status := a.status, secret := a.secret } _ _ _ _ h1 r
      rw [pAll_step _ (by simp) rfl]
      exact congrArg pAll this
  have e3 : ∀ r, pAll ({ zeroA with status := a.status, secret := a.secret, id := a.id, ax := a.ax, ay := a.ay, label := a.label }, (boxW a ++ r, false)) = pAll ({ a with seen := [], events := [] }, (r, false)) := fun r => by
    unfold boxW
    by_cases h0 : eq4 a.x0 a.y0 a.x1 a.y1 0 0 0 0 = true
    · rw [if_pos h0]
      obtain ⟨g1, g2, g3, g4⟩ := eq4_zero h0
      obtain ⟨st, se, i, ax, ay, la, x0, y0, x1, y1, sn, evs⟩ := a
      dsimp only at g1 g2 g3 g4
      subst g1 g2 g3 g4
      rfl
    · unfold boxN at h2
      rw [if_neg h0] at h2 ⊢
      have := part_box { zeroA with status := a.status, secret := a.secret, id := a.id, ax := a.ax, ay := a.ay, label := a.label } _ _ _ _ h2 r
      rw [pAll_step _ (by simp) rfl]
      exact congrArg pAll this
  unfold partsW
  rw [List.append_assoc, List.append_assoc, List.append_assoc, e1, e2, e3, all_seen _ _ _ h3, all_events _ _ h4]
  obtain ⟨st, se, i, ax, ay, la, x0, y0, x1, y1, sn, evs⟩ := a
  simp
theorem at_sts : ∀ k, k < 13 → atF (stsL.getD k []) 0 stsL = (k : Nat) := by decide
theorem at_stW (st : Int) (h : 0 ≤ st ∧ st ≤ 12) : atF (stW st) 0 stsL = st := by
  unfold stW
  rw [if_pos h, at_sts _ (by omega)]
  omega
theorem sts_blank : ∀ w ∈ stsL, (32 : UInt8) ∉ w := by decide
theorem blank_ns (ns : List Int) : ∀ w ∈ nsW ns, (32 : UInt8) ∉ w := by
  intro w hw
  unfold nsW at hw
  obtain ⟨n, _, rfl⟩ := List.mem_map.1 hw
  exact no_blank_txt _
theorem blank_sn (s : Sn) : ∀ w ∈ snW s, (32 : UInt8) ∉ w := by
  intro w hw
  unfold snW at hw
  simp only [List.mem_append, List.mem_singleton] at hw
  rcases hw with (rfl | hw) | hw
  · decide
  · exact blank_ns _ w hw
  · exact blank_ns _ w hw
theorem blank_ev (s : Ev) : ∀ w ∈ evW s, (32 : UInt8) ∉ w := by
  intro w hw
  unfold evW at hw
  simp only [List.mem_append, List.mem_singleton] at hw
  rcases hw with rfl | hw
  · decide
  · exact blank_ns _ w hw
theorem ans_blank (a : Ans) : ∀ w ∈ ansW a, (32 : UInt8) ∉ w := by
  intro w hw
  unfold ansW partsW at hw
  simp only [List.mem_append, List.mem_singleton, List.mem_flatMap] at hw
  rcases hw with rfl | (((hw | hw) | hw) | ⟨s, _, hw⟩) | ⟨s, _, hw⟩
  · unfold stW
    split
    · rw [List.getD_eq_getElem?_getD]
      cases h : stsL[a.status.toNat]? with
      | none => simp
      | some w => exact sts_blank w (List.mem_of_getElem? h)
    · simp
  · unfold secW at hw
    split at hw
    · simp at hw
    · simp only [List.mem_cons, List.not_mem_nil, or_false] at hw
      rcases hw with rfl | rfl
      · decide
      · exact no_blank_hex _
  · unfold recW at hw
    split at hw
    · simp at hw
    · simp only [List.mem_append, List.mem_singleton] at hw
      rcases hw with rfl | hw
      · decide
      · exact blank_ns _ w hw
  · unfold boxW at hw
    split at hw
    · simp at hw
    · simp only [List.mem_append, List.mem_singleton] at hw
      rcases hw with rfl | hw
      · decide
      · exact blank_ns _ w hw
  · exact blank_sn s w hw
  · exact blank_ev s w hw
/-- What is written is read as it was. -/
theorem read_ans (a : Ans) (h : mayB a = true) (hs : a.secret < 18446744073709551616) : readA (ansT a) = (a, 0) := by
  have hT : ansT a = joinW (ansW a) := by unfold ansT; rw [if_pos h]
  have hsp : splitL (ansT a) = ansW a := by
    rw [hT]
    exact split_join _ (by simp [ansW]) (ans_blank a)
  have hm := h
  unfold mayB at hm
  simp only [Bool.and_eq_true, decide_eq_true_eq, Bool.not_eq_true'] at hm
  have hr : readT (ansT a) = (a, ([], false)) := by
    unfold readT
    rw [hsp]
    show pAll ({ zeroA with status := atF (stW a.status) 0 stsL }, (partsW a, false)) = _
    rw [at_stW _ hm.1]
    exact all_parts a hm.2 hs
  unfold readA
  rw [hr, if_pos ⟨rfl, h, rfl⟩]
theorem readA_cases (l : List UInt8) (hl : l.length ≤ 20000) : (∃ z, readA l = (z, 0) ∧ mayB z = true ∧ ansT z = l ∧ z.seen.length ≤ 10000 ∧ z.events.length ≤ 10000 ∧ z.secret < 18446744073709551616) ∨ readA l = (zeroA, 60) := by
  have hi := readT_items l hl
  unfold readA
  split
  · rename_i h
    exact .inl ⟨_, rfl, h.2.1, h.2.2, hi⟩
  · exact .inr rfl
end Go.Proofs.YtbfbcbhnknhgnaaDoor
