/-
  A request's cells, and the codec's steps on them in whatever mode. Conditions: as each states.
-/
import Derived.Test.YtldjgpnbkbmgoaaGreatDoorLong
namespace Go.Proofs.YtldjgpnbkbmgoaaGreatDoor
open Go.RowKit Go.Lib

structure Req where
  op : Int
  tenant : Int
  user : Int
  secret : Nat
  m : Int
  whom : Int
  role : Int
  tier : Int
  quota : Int
  txt : List UInt8
  rights : Int
  zoom : Int
  x0 : Int
  y0 : Int
  x1 : Int
  y1 : Int
  til : Int
  other : Nat
  pk : Int
  area : Nat
  ax : Int
  ay : Int
  label : Int
  frm : Int

/-- A request's cells. -/
abbrev rqC (q : Req) : Array Value := #[.int .i64 q.op, .int .i64 q.tenant, .int .i64 q.user, .int .u64 q.secret, .int .i64 q.m, .int .i64 q.whom, .int .i64 q.role, .int .i64 q.tier, .int .i64 q.quota, strV q.txt, .int .i64 q.rights, .int .i64 q.zoom, .int .i64 q.x0, .int .i64 q.y0, .int .i64 q.x1, .int .i64 q.y1, .int .i64 q.til, .int .u64 q.other, .int .i64 q.pk, .int .u64 q.area, .int .i64 q.ax, .int .i64 q.ay, .int .i64 q.label, .int .i64 q.frm]
def Rq (w : World) (r : Nat) (q : Req) : Prop := Blk w r 60 (rqC q)

structure Lens (off : Nat) where
  get : Req → Int
  set : Req → Int → Req
  at_ : ∀ q, (rqC q)[off]? = some (.int .i64 (get q))
  put : ∀ q v, (rqC q).setIfInBounds off (.int .i64 v) = rqC (set q v)
  same : ∀ q, set q (get q) = q
structure LensU (off : Nat) where
  get : Req → Nat
  set : Req → Nat → Req
  at_ : ∀ q, (rqC q)[off]? = some (.int .u64 (get q))
  put : ∀ q (v : Nat), (rqC q).setIfInBounds off (.int .u64 v) = rqC (set q v)
  same : ∀ q, set q (get q) = q

def LOp : Lens 0 := ⟨(·.op), fun q v => { q with op := v }, fun _ => rfl, fun _ _ => rfl, fun _ => rfl⟩
def LTenant : Lens 1 := ⟨(·.tenant), fun q v => { q with tenant := v }, fun _ => rfl, fun _ _ => rfl, fun _ => rfl⟩
def LUser : Lens 2 := ⟨(·.user), fun q v => { q with user := v }, fun _ => rfl, fun _ _ => rfl, fun _ => rfl⟩
def LSecret : LensU 3 := ⟨(·.secret), fun q v => { q with secret := v }, fun _ => rfl, fun _ _ => rfl, fun _ => rfl⟩
def LM : Lens 4 := ⟨(·.m), fun q v => { q with m := v }, fun _ => rfl, fun _ _ => rfl, fun _ => rfl⟩
def LWhom : Lens 5 := ⟨(·.whom), fun q v => { q with whom := v }, fun _ => rfl, fun _ _ => rfl, fun _ => rfl⟩
def LRole : Lens 6 := ⟨(·.role), fun q v => { q with role := v }, fun _ => rfl, fun _ _ => rfl, fun _ => rfl⟩
def LTier : Lens 7 := ⟨(·.tier), fun q v => { q with tier := v }, fun _ => rfl, fun _ _ => rfl, fun _ => rfl⟩
def LQuota : Lens 8 := ⟨(·.quota), fun q v => { q with quota := v }, fun _ => rfl, fun _ _ => rfl, fun _ => rfl⟩
def LRights : Lens 10 := ⟨(·.rights), fun q v => { q with rights := v }, fun _ => rfl, fun _ _ => rfl, fun _ => rfl⟩
def LZoom : Lens 11 := ⟨(·.zoom), fun q v => { q with zoom := v }, fun _ => rfl, fun _ _ => rfl, fun _ => rfl⟩
def LX0 : Lens 12 := ⟨(·.x0), fun q v => { q with x0 := v }, fun _ => rfl, fun _ _ => rfl, fun _ => rfl⟩
def LY0 : Lens 13 := ⟨(·.y0), fun q v => { q with y0 := v }, fun _ => rfl, fun _ _ => rfl, fun _ => rfl⟩
def LX1 : Lens 14 := ⟨(·.x1), fun q v => { q with x1 := v }, fun _ => rfl, fun _ _ => rfl, fun _ => rfl⟩
def LY1 : Lens 15 := ⟨(·.y1), fun q v => { q with y1 := v }, fun _ => rfl, fun _ _ => rfl, fun _ => rfl⟩
def LTil : Lens 16 := ⟨(·.til), fun q v => { q with til := v }, fun _ => rfl, fun _ _ => rfl, fun _ => rfl⟩
def LOther : LensU 17 := ⟨(·.other), fun q v => { q with other := v }, fun _ => rfl, fun _ _ => rfl, fun _ => rfl⟩
def LPk : Lens 18 := ⟨(·.pk), fun q v => { q with pk := v }, fun _ => rfl, fun _ _ => rfl, fun _ => rfl⟩
def LArea : LensU 19 := ⟨(·.area), fun q v => { q with area := v }, fun _ => rfl, fun _ _ => rfl, fun _ => rfl⟩
def LAx : Lens 20 := ⟨(·.ax), fun q v => { q with ax := v }, fun _ => rfl, fun _ _ => rfl, fun _ => rfl⟩
def LAy : Lens 21 := ⟨(·.ay), fun q v => { q with ay := v }, fun _ => rfl, fun _ _ => rfl, fun _ => rfl⟩
def LLabel : Lens 22 := ⟨(·.label), fun q v => { q with label := v }, fun _ => rfl, fun _ _ => rfl, fun _ => rfl⟩
def LFrm : Lens 23 := ⟨(·.frm), fun q v => { q with frm := v }, fun _ => rfl, fun _ _ => rfl, fun _ => rfl⟩

/-- A number's step. -/
def nS {off : Nat} (L : Lens off) (k : Nat) (most : Int) (p : CS × Req) : CS × Req :=
  if p.1.m = 0 then
    (if L.get p.2 < 0 ∨ most < L.get p.2 then ⟨0, p.1.l, p.1.n + k, true⟩ else ⟨0, p.1.l ++ toBE k (L.get p.2).toNat, p.1.n + k, p.1.bad⟩, p.2)
  else if p.1.m = 2 then (⟨2, p.1.l.drop k, p.1.n + k, p.1.bad || decide (most < (beNat (p.1.l.take k) : Nat))⟩, L.set p.2 (beNat (p.1.l.take k) : Nat))
  else (⟨p.1.m, p.1.l, p.1.n + k, p.1.bad⟩, p.2)
def lS {off : Nat} (L : LensU off) (p : CS × Req) : CS × Req :=
  if p.1.m = 0 then (⟨0, p.1.l ++ toBE 8 (L.get p.2), p.1.n + 8, p.1.bad⟩, p.2)
  else if p.1.m = 2 then (⟨2, p.1.l.drop 8, p.1.n + 8, p.1.bad⟩, L.set p.2 (beNat (p.1.l.take 8)))
  else (⟨p.1.m, p.1.l, p.1.n + 8, p.1.bad⟩, p.2)
def tS (p : CS × Req) : CS × Req :=
  if p.1.m = 0 then (⟨0, p.1.l ++ p.2.txt, p.1.n, p.1.bad || decide (512 < p.2.txt.length)⟩, p.2)
  else if p.1.m = 2 then (⟨2, [], p.1.n, p.1.bad⟩, { p.2 with txt := p.1.l })
  else p

/-- There is room for so many bytes. -/
structure Fit (s : CS) (b : Nat) : Prop where
  md : s.m = 0 ∨ s.m = 1 ∨ s.m = 2
  n0 : 0 ≤ s.n
  n1 : s.n + b ≤ 1000
  wr : s.m = 0 → s.l.length + b ≤ 100000
  rd : s.m = 2 → b ≤ s.l.length

theorem fit_n {off b j : Nat} {L : Lens off} {k : Nat} {most : Int} {p : CS × Req} (h : Fit p.1 b) (e : k + j = b) : Fit (nS L k most p).1 j := by
  obtain ⟨⟨m, l, n, bad⟩, q⟩ := p
  obtain ⟨h1, h2, h3, h4, h5⟩ := h
  simp only at h1 h2 h3 h4 h5
  unfold nS
  rcases h1 with rfl | rfl | rfl
  · simp only [if_true]
    split
    · exact ⟨.inl rfl, by simp only; omega, by simp only; omega, fun _ => by have := h4 rfl; simp only; omega, fun e => by simp at e⟩
    · exact ⟨.inl rfl, by simp only; omega, by simp only; omega, fun _ => by have := h4 rfl; simp only [List.length_append, toBE_len]; omega, fun e => by simp at e⟩
  · exact ⟨.inr (.inl rfl), by simp; omega, by simp; omega, fun e => by simp at e, fun e => by simp at e⟩
  · exact ⟨.inr (.inr rfl), by simp; omega, by simp; omega, fun e => by simp at e, fun _ => by have := h5 rfl; simp; omega⟩
theorem fit_l {off b j : Nat} {L : LensU off} {p : CS × Req} (h : Fit p.1 b) (e : 8 + j = b) : Fit (lS L p).1 j := by
  obtain ⟨⟨m, l, n, bad⟩, q⟩ := p
  obtain ⟨h1, h2, h3, h4, h5⟩ := h
  simp only at h1 h2 h3 h4 h5
  unfold lS
  rcases h1 with rfl | rfl | rfl
  · exact ⟨.inl rfl, by simp; omega, by simp; omega, fun _ => by have := h4 rfl; simp [toBE_len]; omega, fun e => by simp at e⟩
  · exact ⟨.inr (.inl rfl), by simp; omega, by simp; omega, fun e => by simp at e, fun e => by simp at e⟩
  · exact ⟨.inr (.inr rfl), by simp; omega, by simp; omega, fun e => by simp at e, fun _ => by have := h5 rfl; simp; omega⟩
theorem Fit.less {s : CS} {b j : Nat} (h : Fit s b) (e : j ≤ b) : Fit s j :=
  ⟨h.md, h.n0, by have := h.n1; omega, fun x => by have := h.wr x; omega, fun x => by have := h.rd x; omega⟩

def RPost (w : World) (base c r : Nat) (p : CS × Req) (e : Ending) (w' : World) : Prop := e = .returned (.tuple #[]) ∧ Cod w' base c p.1 ∧ Rq w' r p.2 ∧ Below base w w'

theorem number_ok {off : Nat} (L : Lens off) (w : World) (base c r : Nat) (p : CS × Req) (hC : Cod w base c p.1) (hR : Rq w r p.2) (hcr : c ≠ r) (hbr : base ≤ r) (k b : Nat) (most : Int) (hf : Fit p.1 b) (hkb : k ≤ b) (h1 : 1 ≤ k) (h4 : k ≤ 4) (hmk : most < (256 ^ k : Nat)) (hm4 : most < 4294967296) :
    Calls Tryz.prog 140 #[.pointer (some ⟨c, 0, none⟩), .pointer (some ⟨r, off, none⟩), .int .i64 k, .int .i64 most] w (RPost w base c r (nS L k most p)) := by
  obtain ⟨⟨m, l, n, bad⟩, q⟩ := p
  obtain ⟨e1, e2, e3, e4, e5⟩ := hf
  simp only at e1 e2 e3 e4 e5 hC hR
  unfold nS
  rcases e1 with rfl | rfl | rfl
  · have := e4 rfl
    simp only [if_true]
    split
    · rename_i hb
      exact number_bad w base c l n bad hC r off _ _ _ hR (L.at_ q) hcr k most e2 (by omega) (by omega) (by decide) hb
    · rename_i hb
      obtain ⟨x, hx⟩ : ∃ x : Nat, L.get q = (x : Int) := ⟨(L.get q).toNat, by omega⟩
      have hg := L.at_ q
      rw [hx] at hg hb ⊢
      exact number_fine w base c l n bad hC r off _ _ x hR hg hcr k most e2 (by omega) h1 (by omega) (by decide) (by omega) hmk hm4 (by omega)
  · exact number_counts w base c l n bad hC r off _ _ hR hcr k most e2 (by omega) (by omega)
  · have := e5 rfl
    have h := number_reads w base c l n bad hC r off _ _ _ hR (L.at_ q) hcr hbr k h1 h4 (by omega) most e2 (by omega)
    rw [L.put] at h
    exact h

theorem long_ok {off : Nat} (L : LensU off) (w : World) (base c r : Nat) (p : CS × Req) (hC : Cod w base c p.1) (hR : Rq w r p.2) (hcr : c ≠ r) (hbr : base ≤ r) (b : Nat) (hf : Fit p.1 b) (hkb : 8 ≤ b) (hu : p.1.m = 0 → L.get p.2 < 256 ^ 8) :
    Calls Tryz.prog 141 #[.pointer (some ⟨c, 0, none⟩), .pointer (some ⟨r, off, none⟩)] w (RPost w base c r (lS L p)) := by
  obtain ⟨⟨m, l, n, bad⟩, q⟩ := p
  obtain ⟨e1, e2, e3, e4, e5⟩ := hf
  simp only at e1 e2 e3 e4 e5 hC hR
  unfold lS
  rcases e1 with rfl | rfl | rfl
  · have := e4 rfl
    exact long_writes w base c l n bad hC r off _ _ _ hR (L.at_ q) hcr e2 (by omega) (by decide) (hu rfl) (by omega)
  · exact long_counts w base c l n bad hC r off _ _ hR hcr e2 (by omega)
  · have := e5 rfl
    have h := long_reads w base c l n bad hC r off _ _ _ hR (L.at_ q) hcr hbr (by omega) e2 (by omega)
    rw [L.put] at h
    exact h

theorem text_ok (w : World) (base c r : Nat) (p : CS × Req) (hC : Cod w base c p.1) (hR : Rq w r p.2) (hcr : c ≠ r) (hbr : base ≤ r) (hf : Fit p.1 0) (hu : p.1.m = 0 → p.1.l.length + p.2.txt.length ≤ 140737488355328) :
    Calls Tryz.prog 183 #[.pointer (some ⟨c, 0, none⟩), .pointer (some ⟨r, 9, none⟩)] w (RPost w base c r (tS p)) := by
  obtain ⟨⟨m, l, n, bad⟩, q⟩ := p
  obtain ⟨e1, e2, e3, e4, e5⟩ := hf
  simp only at e1 e2 e3 e4 e5 hC hR
  unfold tS
  rcases e1 with rfl | rfl | rfl
  · exact text_writes w base c l n bad hC r 9 _ _ _ hR rfl hcr (by decide) (hu rfl)
  · exact text_counts w base c l n bad hC r 9 _ _ hR
  · exact text_reads w base c l n bad hC r 9 _ _ _ hR rfl hcr hbr
end Go.Proofs.YtldjgpnbkbmgoaaGreatDoor
