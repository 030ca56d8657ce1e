/-
  What a play with a trail keeps: the trail, the row of all that was put in, the row of what is gone lie apart. Conditions: none.
-/
import Derived.Test.YtnkgdabapgdiaaaLawOwn
namespace Go.Proofs.Ytnkgdabapgdiaaa
open Go.RowKit Go.ChangeShapes Go.WideShapes

@[go_sem high] theorem cut22 (w : World) (A : Option Addr) (n c j : Nat) (k : IntKind) (hj : j ≤ n) : (Instr.slice 22 (.slice A n c) (some (.int k (j : Int))) none none).run Try.prog w = .ok (.slice (cutA A c j 4) (n - j) (c - j)) w :=
  run_slice_lo Try.underlying22 Try.sizeOf33 w A n c j k hj
@[go_sem high] theorem pre22 (w : World) (A : Option Addr) (n c j : Nat) (k : IntKind) (hj : j ≤ c) : (Instr.slice 22 (.slice A n c) none (some (.int k (j : Int))) none).run Try.prog w = .ok (.slice A j c) w :=
  run_slice_hi Try.underlying22 Try.sizeOf33 w A n c j k hj

theorem Row.below {w w' : World} {b x : Nat} (hb : Below w.heap.size w w') (hlt : b < w.heap.size) : Row w' b x ↔ Row w b x := by
  unfold Row
  rw [hb.cell (p := ⟨b, 0, none⟩) hlt]

structure PI (w : World) (b : Nat) (av gv : Value) (A G L : List Ev) (past : Int) (wr : World) : Prop where
  trl : Trl wr b b L past
  all : Own evC 4 33 wr b av A
  gone : Own evC 4 33 wr b gv G
  ra : ∀ x, av.ownBlock = some x → ¬ Row wr b x
  rg : ∀ x, gv.ownBlock = some x → ¬ Row wr b x
  ag : ∀ x, av.ownBlock = some x → gv.ownBlock ≠ some x
  bel : Below b w wr

theorem PI.ext {w : World} {b : Nat} {av gv : Value} {A G L : List Ev} {past : Int} {wr w' : World} (h : PI w b av gv A G L past wr) (hb : Below wr.heap.size wr w') : PI w b av gv A G L past w' :=
  ⟨h.trl.below hb, h.all.keep fun x hx => hb.block x (h.all.lt x hx).2, h.gone.keep fun x hx => hb.block x (h.gone.lt x hx).2, fun x hx hr => h.ra x hx ((Row.below hb h.trl.lt.2).1 hr), fun x hx hr => h.rg x hx ((Row.below hb h.trl.lt.2).1 hr), h.ag,
    h.bel.trans (hb.mono (Nat.le_of_lt h.trl.lt.2))⟩
theorem PI.drewN {w : World} {b : Nat} {av gv : Value} {A G L : List Ev} {past : Int} {wr : World} (h : PI w b av gv A G L past wr) (n : Nat) : PI w b av gv A G L past (wr.drewN n) :=
  h.ext (below_drewN (Below.refl _ _) n)
/-- The trail has turned. -/
theorem PI.turn {w : World} {b : Nat} {av gv : Value} {A G L L' : List Ev} {past past' : Int} {wr w' : World} (h : PI w b av gv A G L past wr) (ht : Trl w' b b L' past') (hb : Below b wr w') (hf : Fr wr b w') : PI w b av gv A G L' past' w' := by
  obtain ⟨s, h1, h2, h3⟩ := id h.trl
  exact ⟨ht, hf.own h.all (h.all.ne_blk h1 (by decide)) h.ra, hf.own h.gone (h.gone.ne_blk h1 (by decide)) h.rg, hf.apart h.all h.ra, hf.apart h.gone h.rg, h.ag, h.bel.trans hb⟩

section
variable {w : World} {b : Nat} {av gv : Value} {A G L : List Ev} {past : Int} {W w1 : World} {g' n' cap : Nat} {l' : List Ev}
theorem PI.grow (h : PI w b av gv A G L past W) {v : Value} {row : Option Nat} (hv : v.ownBlock = row) (hr : ∀ x, row = some x → ¬ Row W b x) (hlt : ∀ x, row = some x → b ≤ x ∧ x < W.heap.size) (hne : row ≠ some b) (hg : W.grownBy w1 row) (hat : row = some g' ∨ g' = W.heap.size) :
    Trl w1 b b L past ∧ Below b w w1 ∧ (∀ x, Row w1 b x ↔ Row W b x) ∧ ¬ Row w1 b g' := by
  obtain ⟨s, h1, h2, h3⟩ := id h.trl
  have hrow : ∀ x, Row W b x ↔ s.ownBlock = some x := fun x => by
    unfold Row
    rw [h1.is 0 rfl]
    exact ⟨fun ⟨s', e, hx⟩ => by cases e; exact hx, fun hx => ⟨_, rfl, hx⟩⟩
  have k1 := h1.grown hg hne.symm
  have hrow1 : ∀ x, Row w1 b x ↔ s.ownBlock = some x := fun x => by
    unfold Row
    rw [k1.is 0 rfl]
    exact ⟨fun ⟨s', e, hx⟩ => by cases e; exact hx, fun hx => ⟨_, rfl, hx⟩⟩
  refine ⟨⟨s, k1, h2, h3.keep fun x hx => hg.block x (h3.lt x hx).2 (fun e => hr x e.symm ((hrow x).2 hx))⟩, h.bel.grown hg (Nat.le_of_lt h.trl.lt.2) (fun x e => (hlt x e).1), fun x => (hrow1 x).trans (hrow x).symm, fun hx => ?_⟩
  rcases hat with hat | hat
  · exact hr g' hat ((hrow g').2 ((hrow1 g').1 hx))
  · have := (h3.lt g' ((hrow1 g').1 hx)).2
    omega
/-- The row of all grows. -/
theorem PI.all_grows (h : PI w b av gv A G L past W) (ho : Own evC 4 33 w1 b (.slice (some ⟨g', 0, none⟩) n' cap) l') (hg : W.grownBy w1 av.ownBlock) (hat : av.ownBlock = some g' ∨ g' = W.heap.size) : PI w b (.slice (some ⟨g', 0, none⟩) n' cap) gv l' G L past w1 := by
  obtain ⟨s, h1, h2, h3⟩ := id h.trl
  obtain ⟨k1, k2, k3, k4⟩ := h.grow (g' := g') rfl h.ra (fun x e => h.all.lt x e) (h.all.ne_blk h1 (by decide)) hg hat
  refine ⟨k1, ho, h.gone.keep fun x hx => hg.block x (h.gone.lt x hx).2 (fun e => h.ag x e.symm hx), fun x hx => ?_, fun x hx hr => h.rg x hx ((k3 x).1 hr), fun x hx hgx => ?_, k2⟩
  · have : g' = x := by simpa [Value.ownBlock] using hx
    rw [← this]
    exact k4
  · have : g' = x := by simpa [Value.ownBlock] using hx
    subst this
    rcases hat with hat | hat
    · exact h.ag g' hat hgx
    · have := (h.gone.lt g' hgx).2
      omega
/-- The row of what is gone grows. -/
theorem PI.gone_grows (h : PI w b av gv A G L past W) (ho : Own evC 4 33 w1 b (.slice (some ⟨g', 0, none⟩) n' cap) l') (hg : W.grownBy w1 gv.ownBlock) (hat : gv.ownBlock = some g' ∨ g' = W.heap.size) : PI w b av (.slice (some ⟨g', 0, none⟩) n' cap) A l' L past w1 := by
  obtain ⟨s, h1, h2, h3⟩ := id h.trl
  obtain ⟨k1, k2, k3, k4⟩ := h.grow (g' := g') rfl h.rg (fun x e => h.gone.lt x e) (h.gone.ne_blk h1 (by decide)) hg hat
  refine ⟨k1, h.all.keep fun x hx => hg.block x (h.all.lt x hx).2 (fun e => h.ag x hx e.symm), ho, fun x hx hr => h.ra x hx ((k3 x).1 hr), fun x hx => ?_, fun x hx hgx => ?_, k2⟩
  · have : g' = x := by simpa [Value.ownBlock] using hx
    rw [← this]
    exact k4
  · have : g' = x := by simpa [Value.ownBlock] using hgx
    subst this
    rcases hat with hat | hat
    · exact h.ag g' hx hat
    · have := (h.all.lt g' hx).2
      omega
end

theorem takes_page (L : List Ev) (most : Int) : L.take (takes L most) = pageL L 0 most := by
  unfold takes pageL
  rw [if_neg (by omega), Int.toNat_zero, List.drop_zero]
  by_cases h : most ≤ L.length
  · rw [show (min most L.length).toNat = most.toNat by omega]
  · rw [List.take_of_length_le (by omega), List.take_of_length_le (by omega)]
end Go.Proofs.Ytnkgdabapgdiaaa
