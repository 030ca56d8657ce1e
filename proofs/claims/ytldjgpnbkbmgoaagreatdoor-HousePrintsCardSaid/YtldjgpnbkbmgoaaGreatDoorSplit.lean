/-
  A line's words: strings.Split, and the reader's beginning. Conditions: the line is shorter than 4294967281 bytes.
-/
import Derived.Test.YtldjgpnbkbmgoaaGreatDoorFieldsR
namespace Go.Proofs.YtldjgpnbkbmgoaaGreatDoor
open Go.RowKit

theorem splitK_words : ∀ (k : Nat) (s : List UInt8), s.count 32 = k → Lib.splitK [32] 0 k s = splitL s
  | 0, s, h => by
    rw [Lib.splitK, splitL_word s (List.count_eq_zero.1 h)]
  | k + 1, s, h => by
    have hge := Lib.indexByte_ge s 32
    have hne : Lib.indexByte s 32 ≠ -1 := fun e => by
      have := Lib.indexByte_none e
      have hm : (32 : UInt8) ∈ s := List.count_pos_iff.1 (by omega)
      obtain ⟨i, hi, he⟩ := List.getElem_of_mem hm
      exact this i (by rw [List.getElem?_eq_getElem hi, he])
    obtain ⟨o, ho⟩ : ∃ o : Nat, Lib.indexByte s 32 = (o : Int) := ⟨(Lib.indexByte s 32).toNat, by omega⟩
    obtain ⟨h1, h2⟩ := Lib.indexByte_some ho
    obtain ⟨hlt, he⟩ := List.getElem?_eq_some_iff.1 h1
    have hs : s = s.take o ++ 32 :: s.drop (o + 1) := by
      have e := List.drop_eq_getElem_cons hlt
      rw [he] at e
      rw [← e, List.take_append_drop]
    have hn : (32 : UInt8) ∉ s.take o := fun hm => by
      obtain ⟨i, hi, hx⟩ := List.getElem_of_mem hm
      have hio : i < o := by simp at hi; omega
      exact h2 i hio (by rw [← hx, List.getElem_take, List.getElem?_eq_getElem])
    have hc : (s.drop (o + 1)).count 32 = k := by
      have e := congrArg (List.count 32) hs
      rw [List.count_append, List.count_cons_self, List.count_eq_zero.2 hn] at e
      omega
    rw [Lib.splitK, Lib.index_one, ho]
    rw [if_neg (by simp)]
    simp only [Int.toNat_natCast, Nat.add_zero, List.length_cons, List.length_nil, Nat.zero_add]
    rw [splitK_words k _ hc]
    conv => rhs; rw [hs, splitL_app _ _ hn]
theorem splitB_words (l : List UInt8) : Lib.splitB ⟨#[32]⟩ 0 (Lib.countB ⟨l.toArray⟩ ⟨#[32]⟩) ⟨l.toArray⟩ = (splitL l).map fun t => (⟨t.toArray⟩ : ByteArray) := by
  have hd := Lib.splitB_data ⟨#[32]⟩ 0 (Lib.countB ⟨l.toArray⟩ ⟨#[32]⟩) ⟨l.toArray⟩
  have hc : Lib.countB ⟨l.toArray⟩ ⟨#[32]⟩ = l.count 32 := Lib.count_one 32 l
  rw [hc] at hd ⊢
  have e : Lib.splitK (ByteArray.mk #[32]).data.toList 0 (l.count 32) (ByteArray.mk l.toArray).data.toList = splitL l := splitK_words _ _ rfl
  rw [e] at hd
  have := congrArg (List.map fun t : List UInt8 => (⟨t.toArray⟩ : ByteArray)) hd
  rw [List.map_map] at this
  have ei : ((fun t : List UInt8 => (⟨t.toArray⟩ : ByteArray)) ∘ fun b : ByteArray => b.data.toList) = id := by
    funext b
    exact Lib.mk_data b
  rw [ei, List.map_id] at this
  exact this
theorem splitL_few : ∀ s : List UInt8, (splitL s).length ≤ s.length + 1 ∧ ∀ w ∈ splitL s, w.length ≤ s.length
  | [] => by simp [splitL]
  | c :: r => by
    obtain ⟨h1, h2⟩ := splitL_few r
    unfold splitL
    split
    · refine ⟨by simp; omega, fun w hw => ?_⟩
      rcases List.mem_cons.1 hw with rfl | hw
      · simp
      · have := h2 w hw
        simp
        omega
    · cases hs : splitL r with
      | nil => exact absurd hs (splitL_ne r)
      | cons x t =>
        rw [hs] at h1 h2
        refine ⟨by simp at h1 ⊢; omega, fun w hw => ?_⟩
        simp only [List.mem_cons] at hw
        rcases hw with rfl | hw
        · have := h2 x (by simp)
          simp
          omega
        · have := h2 w (by simp [hw])
          simp
          omega

set_option maxRecDepth 100000 in
set_option maxHeartbeats 1000000 in
theorem split_ok (l : List UInt8) (w : World) (hl : l.length < 4294967281) : Calls Tryz.prog 97 #[strV l, .string ⟨#[32]⟩] w (TabPost w (splitL l)) := by
  have hi9 : (Tryz.prog.info? 9).map (fun i => (i.zero, i.size, i.bytes)) = some (some (.string ByteArray.empty), 1, 16) := by kernel_rfl
  have hs : (ByteArray.mk l.toArray).size < 4294967281 := by rw [str_size]; exact hl
  have h1 : 1 ≤ (ByteArray.mk #[32]).size := by decide
  have hle := Lib.countB_le ⟨#[32]⟩ h1 _ ⟨l.toArray⟩ (Nat.le_refl _)
  have hlen := Lib.splitB_all ⟨#[32]⟩ h1 0 _ ⟨l.toArray⟩ rfl
  have c := Any.strings_genSplit_core (ρ := lays146_ren) { lays146 with } hi9 ⟨l.toArray⟩ ⟨#[32]⟩ 0 (-1) (Lib.countB ⟨l.toArray⟩ ⟨#[32]⟩ + 1) w hs h1 (Nat.zero_le _)
    (fun x c _ => (Any.strings_Index_one (ρ := lays146_ren) { lays146 with } x 32 _).mono fun e w' ⟨he, hw⟩ => ⟨by rw [he]; exact congrArg (fun z => Ending.returned (Value.int .i64 z)) (Lib.index_one _ _).symm, hw⟩)
    ((Any.strings_Count_one (ρ := lays146_ren) { lays146 with } ⟨l.toArray⟩ 32 w).mono fun e w' ⟨he, hw⟩ => ⟨by rw [he]; exact congrArg (fun z : Nat => Ending.returned (Value.int .i64 (z : Int))) (Lib.count_one 32 l).symm, hw⟩)
    (by decide) (by decide) (by rw [if_pos (by decide)]; omega)
  rw [Nat.add_sub_cancel, hlen] at c
  have e2 : Lib.cellsOf (Lib.splitB ⟨#[32]⟩ 0 (Lib.countB ⟨l.toArray⟩ ⟨#[32]⟩) ⟨l.toArray⟩) (Lib.countB ⟨l.toArray⟩ ⟨#[32]⟩ + 1) = wordsC (splitL l) := by
    rw [← hlen, Lib.cellsOf_full, splitB_words, List.map_map]
    rfl
  have e3 : Lib.countB ⟨l.toArray⟩ ⟨#[32]⟩ + 1 = (splitL l).length := by rw [← hlen, splitB_words, List.length_map]
  rw [e2, e3] at c
  have HC := Lib.hid c
  clear c e2 e3 hlen hle
  go_enter Tryz.func97, Tryz.ntmps97
  go_wp2_with fail
  refine HC.out.mono ?_
  rintro e w' ⟨rfl, hw⟩
  rw [hw]
  go_wp2
  go_ret
  exact ⟨rfl, rfl⟩
end Go.Proofs.YtldjgpnbkbmgoaaGreatDoor
