/-
  sort.Slice at none or one element: it hands back nothing and turns nothing of old; and the fixed calls of layer 28. Conditions: as each states.
-/
import Derived.Test.YtmgpfkoomlgcoaaGreatEvT
import Derived.WalkKit
import Derived.Lib.ReflectliteSlice
import Derived.Laws.Externs
import Derived.Lib.Hide
namespace Go.Proofs.YtmgpfkoomlgcoaaGreat
open Ev Go.RowKit

/-- What is asked of a slice's type, for sort.Slice. -/
structure SortT (t : TypeId) : Prop where
  row : ∃ e i ie ke, Tryz.prog.info? t = some i ∧ i.desc = .slice e ∧ Tryz.prog.packed t = false ∧ Tryz.prog.info? e = some ie ∧ ∀ w, (Extern.Rtype.kind e).run Tryz.prog w = .ok ke w

theorem valueOf_run {t : TypeId} (h : SortT t) (p : Option Addr) (n c : Nat) (w : World) :
    (callFunc 255 #[.iface t (.slice p n c)]).run Tryz.prog w = .ok (.value (.agg #[typeHandle Tryz.prog t, .pointer (some ⟨w.heap.size, 0, none⟩), .int .u64 151])) (w.alloc (.cells #[.slice p n c] t)) := by
  obtain ⟨e, i, ie, ke, h1, h2, h3, h4, h5⟩ := h.row
  rw [run_callFunc_extern Tryz.func255 (by kernel_rfl) (by kernel_rfl) (by kernel_rfl) (e := fun args => Extern.ReflectliteValue.unpack (args.getD 0 (.tuple #[]))) (by kernel_rfl)]
  show Result.andThen ((Extern.ReflectliteValue.unpack (.iface t (.slice p n c))).run Tryz.prog w) _ = _
  rw [Lib.run_valueOf_slice t e i h1 h2 p n c w]
  rfl

theorem swapper_run {t : TypeId} (h : SortT t) (p : Option Addr) (n c : Nat) (hn : n ≤ 1) :
    ∃ f, ∀ w, (callFunc 256 #[.iface t (.slice p n c)]).run Tryz.prog w = .ok (.value (.func (.func f) #[] #[])) w := by
  obtain ⟨e, i, ie, ke, h1, h2, h3, h4, h5⟩ := h.row
  have hk : Lib.swapperK n ie ke ≤ 2 := by
    unfold Lib.swapperK
    rcases (by omega : n = 0 ∨ n = 1) with rfl | rfl <;> simp
  have hf : ∃ f, Tryz.prog.funcs.findIdx? (·.name == "internal/reflectlite" ++ ".Swapper$" ++ toString (Lib.swapperK n ie ke)) = some f := by
    rcases (by omega : n = 0 ∨ n = 1) with rfl | rfl
    · have : Lib.swapperK 0 ie ke = 1 := by simp [Lib.swapperK]
      rw [this]
      exact ⟨363, by kernel_rfl⟩
    · have : Lib.swapperK 1 ie ke = 2 := by simp [Lib.swapperK]
      rw [this]
      exact ⟨364, by kernel_rfl⟩
  obtain ⟨f, hf⟩ := hf
  refine ⟨f, fun w => ?_⟩
  rw [run_callFunc_extern Tryz.func256 (by kernel_rfl) (by kernel_rfl) (by kernel_rfl) (e := Extern.ReflectliteSwapper.swapper "internal/reflectlite" (Extern.ReflectliteValue.valueError "Swapper")) (by kernel_rfl)]
  rw [Lib.run_swapper_slice t e i ie h1 h2 h4 ke h5 p n c f hf w, if_pos hk]
  rfl

theorem len_run {t : TypeId} (h : SortT t) (a : Addr) (p : Option Addr) (n c : Nat) (w : World) (ha : w.cell? a = some (.slice p n c)) :
    (callFunc 257 #[.agg #[typeHandle Tryz.prog t, .pointer (some a), .int .u64 151]]).run Tryz.prog w = .ok (.value (.int .i64 n)) w := by
  obtain ⟨e, i, ie, ke, h1, h2, h3, h4, h5⟩ := h.row
  rw [run_callFunc_extern Tryz.func257 (by kernel_rfl) (by kernel_rfl) (by kernel_rfl) (e := Extern.ReflectliteValue.method (Extern.ReflectliteValue.valueError "reflectlite.Value.Len" 0) Extern.ReflectliteValue.len) (by kernel_rfl)]
  rw [Lib.run_valueLen_slice t e i h1 h2 h3 a p n c w ha]
  rfl

theorem bits0 : evFlat ev 20 252 [.lit (.int .u64 0)] = some (.int .i64 0) := by kernel_rfl
theorem bits1 : evFlat ev 20 252 [.lit (.int .u64 1)] = some (.int .i64 1) := by kernel_rfl
theorem pdq0 (g g2 : Fn) (a b : Array Value) (l : Value) : evFlat ev 20 258 [.agg [.lit (.func g a b), .lit (.func g2 #[] #[])], .lit (.int .i64 0), .lit (.int .i64 0), .lit l] = some (.tuple #[]) := by kernel_rfl
theorem pdq1 (g g2 : Fn) (a b : Array Value) (l : Value) : evFlat ev 20 258 [.agg [.lit (.func g a b), .lit (.func g2 #[] #[])], .lit (.int .i64 0), .lit (.int .i64 1), .lit l] = some (.tuple #[]) := by kernel_rfl


theorem slice_ok {t : TypeId} (h : SortT t) (p : Option Addr) (n c : Nat) (hn : n ≤ 1) (g : Fn) (a b : Array Value) (w : World) :
    Calls Tryz.prog 154 #[.iface t (.slice p n c), .func g a b] w (fun e w' => e = .returned (.tuple #[]) ∧ Below w.heap.size w w') := by
  obtain ⟨lim, hbits, hpdq⟩ : ∃ lim : Int, evFlat ev 20 252 [.lit (.int .u64 (n : Nat))] = some (.int .i64 lim) ∧ ∀ (g g2 : Fn) (a b : Array Value) (l : Value), evFlat ev 20 258 [.agg [.lit (.func g a b), .lit (.func g2 #[] #[])], .lit (.int .i64 0), .lit (.int .i64 (n : Nat)), .lit l] = some (.tuple #[]) := by
    rcases (by omega : n = 0 ∨ n = 1) with rfl | rfl
    · exact ⟨0, bits0, pdq0⟩
    · exact ⟨1, bits1, pdq1⟩
  have V := valueOf_run h p n c
  obtain ⟨f, S⟩ := swapper_run h p n c hn
  have L := fun (w : World) (x : Addr) (ha : w.cell? x = some (.slice p n c)) => len_run h x p n c w ha
  have hh : ∃ th, typeHandle Tryz.prog t = .pointer (some th) := ⟨_, rfl⟩
  obtain ⟨th, hth⟩ := hh
  rw [hth] at V L
  have HB := Lib.hid hbits
  have HP := Lib.hid hpdq
  clear hbits hpdq
  go_enter Tryz.func154, Tryz.ntmps154
  go_wp2_with fail
  refine (evFlat_ok ev_ok HB.out (concs_flat _ [.int .u64 (n : Nat)] rfl) _).mono ?_
  rintro e w1 ⟨rfl, hb1⟩
  have H1 := Lib.hid hb1
  clear hb1
  go_wp2_with fail
  refine (evFlat_ok ev_ok (HP.out g (.func f) a b _) (concs_flat _ [.agg #[.func g a b, .func (.func f) #[] #[]], .int .i64 0, .int .i64 (n : Nat), .int .i64 lim] rfl) _).mono ?_
  rintro e w2 ⟨rfl, hb2⟩
  have H2 := Lib.hid hb2
  clear hb2
  go_wp2_with fail
  refine bodyPost_end (results_none rfl _ _ _) rfl ?_
  refine ⟨rfl, ?_⟩
  have h0 := ((Below.refl _ w).alloc (Nat.le_refl _) (.cells #[.slice p n c] t)).alloc (by simp) (.cells #[.pointer (some th), .pointer (some ⟨w.heap.size, 0, none⟩), .int .u64 151] 376)
  exact (h0.trans (H1.out.mono h0.size)).trans (H2.out.mono (Nat.le_trans h0.size H1.out.size))

theorem sort_rec : SortT 29 := ⟨69, Tryz.t29, Tryz.t69, 25, by kernel_rfl, rfl, by kernel_rfl, by kernel_rfl, fun w => by kernel_rfl⟩
theorem sort_shp : SortT 30 := ⟨137, Tryz.t30, Tryz.t137, 25, by kernel_rfl, rfl, by kernel_rfl, by kernel_rfl, fun w => by kernel_rfl⟩
theorem sort_num : SortT 181 := ⟨39, Tryz.t181, Tryz.t39, 11, by kernel_rfl, rfl, by kernel_rfl, by kernel_rfl, fun w => by kernel_rfl⟩

/-- sort.Slice at none or one element turns nothing. -/
def small : AV → Bool
  | .lit (.slice none n _) => Nat.ble n 1
  | .slice _ _ n _ => Nat.ble n 1
  | _ => false
def sortOv : Ov := fun f args => match Nat.beq f 154 with
  | true => match args with
    | [.iface t s, .func _ _ _] => match small s && memN [29, 30, 181] t with
      | true => some (.lit (.tuple #[]))
      | false => none
    | _ => none
  | false => none

theorem sortOv_ok : OvOk Tryz.prog sortOv := by
  intro f args v h γ w xs hx
  unfold sortOv at h
  split at h
  · rename_i hf
    have hf := Nat.eq_of_beq_eq_true hf
    subst hf
    split at h
    · rename_i t s g l m
      split at h
      · rename_i hb
        simp only [Option.some.injEq] at h
        subst h
        rw [Bool.and_eq_true] at hb
        have ht : SortT t := by
          have := memN_t.1 hb.2
          simp only [List.mem_cons, List.not_mem_nil, or_false] at this
          rcases this with rfl | rfl | rfl
          · exact sort_rec
          · exact sort_shp
          · exact sort_num
        simp only [Concs] at hx
        obtain ⟨x, xs', e, hc, y, ys, rfl, hd, rfl⟩ := hx
        simp only [Conc] at hc hd
        obtain ⟨sv, rfl, hs⟩ := hc
        obtain ⟨a, b, rfl, _, _⟩ := hd
        have hsl : ∃ p n c, sv = .slice p n c ∧ n ≤ 1 := by
          have hb := hb.1
          unfold small at hb
          split at hb
          · rw [conc_lit_iff] at hs
            exact ⟨_, _, _, hs, Nat.le_of_ble_eq_true hb⟩
          · simp only [Conc] at hs
            obtain ⟨ad, cc, rfl, _⟩ := hs
            exact ⟨_, _, _, rfl, Nat.le_of_ble_eq_true hb⟩
          · cases hb
        obtain ⟨p, n, c, rfl, hn⟩ := hsl
        obtain rfl : xs = #[.iface t (.slice p n c), .func g a b] := Array.ext' e
        refine ⟨Tryz.call154 _ w, (slice_ok ht p n c hn g a b w).mono ?_⟩
        rintro e w' ⟨rfl, hb⟩
        exact ⟨_, rfl, conc_lit γ _, hb⟩
      · cases h
    · cases h
  · cases h

theorem known28 : evFlatO ev sortOv 60 8 [] = some (.bool true) := by kernel_rfl
end Go.Proofs.YtmgpfkoomlgcoaaGreat
