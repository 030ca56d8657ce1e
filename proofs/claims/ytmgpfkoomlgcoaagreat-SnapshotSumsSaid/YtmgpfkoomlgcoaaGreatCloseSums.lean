/-
  SnapshotSums holds: for any bytes and numbers the law returns true, and its arguments read as they did. Conditions: none.
-/
import Derived.Test.YtmgpfkoomlgcoaaGreatLawSums
import Derived.Test.YtmgpfkoomlgcoaaGreatArgs
import Derived.Test.YtmgpfkoomlgcoaaGreatClSnapshotSums
namespace Go.Proofs.YtmgpfkoomlgcoaaGreat
open Ev Go.RowKit Go.ChangeShapes Go.WideShapes

theorem law_sums (l : List UInt8) (s : Value) (pos step : Int) (w : World) (hs : Sl byC w w.heap.size s l) : Calls Tryz.prog 3 #[s, .int .i64 pos, .int .i64 step] w (Holds w) := by
  by_cases h : 4000 < l.length ∨ pos < 0 ∨ (l.length : Int) < pos
  · exact sums_out l s pos step w hs h
  · obtain ⟨p, rfl⟩ : ∃ p : Nat, pos = (p : Int) := ⟨pos.toNat, by omega⟩
    exact sums_in l s p step w hs (by omega) (by omega)

section
variable {H : Type} {enc : TypeId × Value → H} {w : World} {base : Nat} {spare : Nat → Bool} {held : Bool}
theorem u8_of {n : Int} (h : (Lit.int .u8 n).wf = true) : ∃ b : UInt8, n = (b.toNat : Int) := by
  have h2 : (0 : Int) ≤ n ∧ n < 256 := by
    simp only [Lit.wf, Bool.and_eq_true, decide_eq_true_eq] at h
    have e1 : IntKind.u8.min = 0 := rfl
    have e2 : IntKind.u8.max = 255 := rfl
    omega
  refine ⟨UInt8.ofNat n.toNat, ?_⟩
  simp
  omega
set_option maxRecDepth 100000 in
theorem trod_by (n : Nat) (cs : List Value) (x : DataW H × List MemPlace) (h : DataW.trod enc Tryz.prog w base spare held n 5 cs = some x) (_hl : cs.length = 1) : ∃ a : UInt8, cs = byC a ∧ True := by
  obtain ⟨a0, rfl, -, hw⟩ := DataW.trod_int Tryz.underlying5 h
  obtain ⟨b, rfl⟩ := u8_of hw
  exact ⟨b, rfl, trivial⟩
set_option maxRecDepth 100000 in
theorem open_bytes {r : Reach} {b0 : Nat} {v : Value} {d : DataW H} {ps : List MemPlace} (hv : Value.okWide Tryz.prog w r b0 22 v) (h : DataW.Trod enc Tryz.prog w base spare held 22 v d ps) : ∃ l : List UInt8, Sl byC w w.heap.size v l := by
  obtain ⟨l, hl, _⟩ := open_sl (enc' := byC) (by omega) byC_len (fun _ => True) Tryz.underlying22 (by kernel_rfl) trod_by hv h
  exact ⟨l, hl⟩
end

set_option maxRecDepth 100000 in
theorem snapshotSums_lifted (os : Os) (started : os.Started) (H : Type) (enc : TypeId × Value → H) :
    ReturnsInHanded {} Tryz.checked os 3 .any (Rows.snapshotSumsSpec.pre6 enc Tryz.prog Tryz.f3 Rows.snapshotSumsRow.domain false) (Rows.snapshotSumsSpec.post enc Tryz.prog Tryz.f3 false true false false) := by
  refine law_lifts (C := Tryz.checked) knob_none seat_laid started snapshotSums_noInit Tryz.func3 Tryz.underlying4 rfl (fun t ht => ?_) rfl (fun ds hd => ?_)
    (ChangeSpec.witness6 (enc := enc) (C := Tryz.checked) false ⟨#[], #[.slice none 0 0, .int .i64 0, .int .i64 0], []⟩ 8 (by kernel_rfl) (by kernel_rfl) (by kernel_rfl) (by kernel_rfl)) ?_
  · have h : ([22, 3] : List TypeId).all (fun t => Tryz.prog.readableRec t && decide (t < Tryz.prog.types.size)) = true := by kernel_rfl
    have hm : t ∈ ([22, 3] : List TypeId) := by
      have : t ∈ ([22, 3, 3] : List TypeId) := ht
      simp only [List.mem_cons, List.not_mem_nil, or_false] at this ⊢
      rcases this with rfl | rfl | rfl <;> simp
    have := List.all_eq_true.1 h t hm
    simp only [Bool.and_eq_true, decide_eq_true_eq] at this
    exact this
  · match ds, hd with
    | [d1, d2, d3], _ => exact ⟨rfl, rfl, rfl⟩
  · intro W base args ds ps hval hA
    have hA' : DataW.TrodAll enc Tryz.prog W 0 (fun _ => true) true [22, 3, 3] args.toList ds ps := hA
    obtain ⟨v0, v1, v2, d0, d1, d2, p0, p1, p2, rfl, rfl, rfl, h0, h1, h2⟩ := trodAll_three hA'
    obtain ⟨l, hs⟩ := open_bytes (hval 0 22 v0 rfl rfl) h0
    obtain ⟨x, rfl, -⟩ := open_int Tryz.underlying3 (hval 1 3 v1 rfl rfl) h1
    obtain ⟨y, rfl, -⟩ := open_int Tryz.underlying3 (hval 2 3 v2 rfl rfl) h2
    exact law_sums l v0 x y W hs

theorem snapshotSums_holds : Rows.SnapshotSumsSaid :=
  OpenClaim.holds_of_wide 3 Tryz.f3 rfl rfl rfl rfl rfl rfl rfl ⟨rfl, rfl, rfl, rfl, rfl⟩ rfl rfl rfl rfl rfl snapshotSums_named Tryz.func3 snapshotSums_closed
    (of_decide_eq_true (by kernel_rfl)) (by unfold Func.isWrapper; rw [if_neg (of_decide_eq_false (by kernel_rfl))]; exact ⟨rfl, rfl⟩)
    (fun os started H enc _ => snapshotSums_lifted os started H enc)
end Go.Proofs.YtmgpfkoomlgcoaaGreat
