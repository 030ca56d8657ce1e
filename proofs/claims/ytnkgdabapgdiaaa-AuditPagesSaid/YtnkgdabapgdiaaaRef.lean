/-
  Contracts of the references Page and Own of layer 17. Conditions: at most 1,000 events.
-/
import Derived.Test.YtnkgdabapgdiaaaBase
namespace Go.Proofs.Ytnkgdabapgdiaaa
open Go.RowKit

theorem ev_elem : ElemOk Try.prog 22 33 4 32 := ⟨Try.underlying22, by
  have h : (Try.prog.info? 33).map (fun i => (i.zero, i.size, i.bytes)) = some (some (.agg #[.int .i64 0, .int .i64 0, .int .i64 0, .int .i64 0]), 4, 32) := by kernel_rfl
  obtain ⟨i, hi, h1, h2, h3⟩ := info_parts h
  exact ⟨i, _, hi, h1, h2, h3, rfl⟩, by omega⟩
theorem ev_enc : EncOk evC 4 := ⟨evC_len, fun a u hu => by
  simp only [evC, List.mem_cons, List.not_mem_nil, or_false] at hu
  rcases hu with rfl | rfl | rfl | rfl <;> rfl⟩

/-- The document's page: from a number on, at most so many. -/
def pageL (l : List Ev) (from_ most : Int) : List Ev := if from_ < 0 then [] else (l.drop from_.toNat).take most.toNat
theorem pageL_yes {l : List Ev} {from_ most : Int} {k : Nat} (hk : k < l.length) (h0 : 0 ≤ from_) (h1 : from_ ≤ k) (h2 : ((pageL (l.take k) from_ most).length : Int) < most) :
    pageL (l.take (k + 1)) from_ most = pageL (l.take k) from_ most ++ [l[k]] := by
  unfold pageL at h2 ⊢
  rw [if_neg (by omega)] at h2 ⊢
  rw [if_neg (by omega)]
  simp only [List.length_take, List.length_drop] at h2
  rw [List.take_succ_eq_append_getElem hk, List.drop_append_of_le_length (by simp; omega)]
  have hD : (List.drop from_.toNat (List.take k l)).length = k - from_.toNat := by simp; omega
  generalize List.drop from_.toNat (List.take k l) = D at hD ⊢
  rw [List.take_of_length_le (l := D ++ [l[k]]) (by simp; omega), List.take_of_length_le (l := D) (by omega)]
theorem pageL_no {l : List Ev} {from_ most : Int} {k : Nat} (hk : k < l.length) (h : (k : Int) < from_ ∨ most ≤ ((pageL (l.take k) from_ most).length : Int)) :
    pageL (l.take (k + 1)) from_ most = pageL (l.take k) from_ most := by
  unfold pageL at h ⊢
  by_cases h0 : from_ < 0
  · rw [if_pos h0, if_pos h0]
  rw [if_neg h0] at h ⊢
  rw [if_neg h0]
  by_cases hf : k < from_.toNat
  · rw [List.drop_of_length_le (by simp; omega), List.drop_of_length_le (by simp; omega)]
  · rcases h with h | h
    · omega
    · simp only [List.length_take, List.length_drop] at h
      rw [List.take_succ_eq_append_getElem hk, List.drop_append_of_le_length (by simp; omega), List.take_append_of_le_length (by simp; omega)]
theorem pageL_len (l : List Ev) (from_ most : Int) : (pageL l from_ most).length ≤ l.length := by
  unfold pageL
  split
  · simp
  · simp; omega

/-- A fresh row of events is handed back; what lay lies as it did. -/
def GivesEv (w : World) (l : List Ev) (e : Ending) (w' : World) : Prop := ∃ v, e = .returned v ∧ Own evC 4 33 w' w.heap.size v l ∧ Below w.heap.size w w'

set_option maxHeartbeats 400000 in
theorem page_ok (l : List Ev) (s : Value) (from_ most : Int) (w : World) (B : Nat) (hs : Sl evC w B s l) (hB : B ≤ w.heap.size) (hlen : l.length ≤ 1000) :
    Calls Try.prog 13 #[s, .int .i64 from_, .int .i64 most] w (GivesEv w (pageL l from_ most)) := by
  obtain ⟨A, ca, rfl, h1, h2, h3⟩ := hs
  unfold maxLen at h2
  go_enter Try.func13, Try.ntmps13
  go_wp2
  go_loopw [7, 8] (fun out i wr => ∃ k A' c', k ≤ l.length ∧ i = .int .i64 (k : Nat) ∧ out = .slice A' (pageL (l.take k) from_ most).length c' ∧ Own evC 4 33 wr w.heap.size out (pageL (l.take k) from_ most) ∧ Below w.heap.size w wr) (fun _ i _ => (l.length - intOf i).toNat)
  case atStart => 
    refine ⟨0, none, 0, Nat.zero_le _, rfl, ?_, ?_, Below.refl _ _⟩
    · simp [pageL]
    · simp [pageL]; exact Own.nil
  case round =>
    obtain ⟨k, A', c', hk, rfl, rfl, hown, hbel⟩ := hrel
    by_cases hlt : k < l.length
    · obtain ⟨b, off, rfl, hb, hl⟩ := h3 (by omega)
      obtain ⟨x0, x1, x2, x3⟩ := ((hl.of_heap (hbel.block b (by omega))).elem evC_len k hlt).ev
      have hy := @pageL_yes l from_ most k hlt
      have hn := @pageL_no l from_ most k hlt
      have hle := pageL_len (l.take k) from_ most
      have hle2 : (l.take k).length ≤ k := List.length_take_le _ _
      obtain ⟨q, hq⟩ : ∃ q, q = pageL (l.take k) from_ most := ⟨_, rfl⟩
      rw [← hq] at hown hle hy hn ⊢
      have HQ := Lib.hid hq
      have HY := Lib.hid hy
      have HN := Lib.hid hn
      clear hq hy hn hl h3
      have hsz := hbel.size
      go_wp2_with (at_builtin; refine app_one ev_elem ev_enc rfl (.tmp 28) (.tmp 33) rfl rfl (hown.alloc _) l[k] wr.heap.size 1 rfl (Blk.lay (Blk.new _ _ _)) (by unfold maxLen; omega) (by omega) (by simp; omega) ?_; intro g' cap w1 hown1 hgrow hat hlt1)
      · go_roundw
        case rel =>
          have e := HY.out ‹_› ‹_› ‹_›
          refine ⟨k + 1, _, cap, by omega, by go_num, by rw [e, List.length_append]; rfl, by rw [e]; exact hown1, ?_⟩
          exact (hbel.alloc hsz _).grown hgrow (by simp; omega) (fun b hb => (hown.lt b hb).1)
        case measure => simp [intOf]; omega
      · go_roundw
        case rel =>
          have e := HN.out (.inr ‹_›)
          exact ⟨k + 1, _, c', by omega, by go_num, by rw [e], by rw [e]; exact hown, hbel⟩
        case measure => simp [intOf]; omega
      · go_roundw
        case rel =>
          have e := HN.out (.inl (by omega))
          exact ⟨k + 1, _, c', by omega, by go_num, by rw [e], by rw [e]; exact hown, hbel⟩
        case measure => simp [intOf]; omega
      · go_ret
        have e : pageL l from_ most = q := by rw [HQ.out]; unfold pageL; rw [if_pos (by assumption), if_pos (by assumption)]
        exact ⟨_, rfl, by rw [e]; exact hown, hbel⟩
    · obtain rfl : k = l.length := by omega
      have e : pageL (l.take l.length) from_ most = pageL l from_ most := by rw [List.take_length]
      rw [e] at hown ⊢
      clear e
      go_wp2
      go_ret
      exact ⟨_, rfl, hown, hbel⟩

/-- A user's own events. -/
def ownL (l : List Ev) (user : Int) : List Ev := l.filter fun e => e.user == user
theorem ownL_yes {l : List Ev} {user : Int} {k : Nat} (hk : k < l.length) (h : l[k].user = user) : ownL (l.take (k + 1)) user = ownL (l.take k) user ++ [l[k]] := by
  unfold ownL
  rw [List.take_succ_eq_append_getElem hk, List.filter_append, List.filter_cons]
  simp [h]
theorem ownL_no {l : List Ev} {user : Int} {k : Nat} (hk : k < l.length) (h : ¬ l[k].user = user) : ownL (l.take (k + 1)) user = ownL (l.take k) user := by
  unfold ownL
  rw [List.take_succ_eq_append_getElem hk, List.filter_append, List.filter_cons]
  simp [h]
theorem ownL_len (l : List Ev) (user : Int) : (ownL l user).length ≤ l.length := List.length_filter_le _ _

set_option maxHeartbeats 400000 in
theorem rown_ok (l : List Ev) (s : Value) (user : Int) (w : World) (B : Nat) (hs : Sl evC w B s l) (hB : B ≤ w.heap.size) (hlen : l.length ≤ 1000) :
    Calls Try.prog 14 #[s, .int .i64 user] w (GivesEv w (ownL l user)) := by
  obtain ⟨A, ca, rfl, h1, h2, h3⟩ := hs
  unfold maxLen at h2
  go_enter Try.func14, Try.ntmps14
  go_wp2
  go_loopw [5, 6] (fun out i wr => ∃ k A' c', k ≤ l.length ∧ i = .int .i64 (k : Nat) ∧ out = .slice A' (ownL (l.take k) user).length c' ∧ Own evC 4 33 wr w.heap.size out (ownL (l.take k) user) ∧ Below w.heap.size w wr) (fun _ i _ => (l.length - intOf i).toNat)
  case atStart => 
    refine ⟨0, none, 0, Nat.zero_le _, rfl, ?_, ?_, Below.refl _ _⟩
    · simp [ownL]
    · simp [ownL]; exact Own.nil
  case round =>
    obtain ⟨k, A', c', hk, rfl, rfl, hown, hbel⟩ := hrel
    by_cases hlt : k < l.length
    · obtain ⟨b, off, rfl, hb, hl⟩ := h3 (by omega)
      obtain ⟨x0, x1, x2, x3⟩ := ((hl.of_heap (hbel.block b (by omega))).elem evC_len k hlt).ev
      have hy := @ownL_yes l user k hlt
      have hn := @ownL_no l user k hlt
      have hle := ownL_len (l.take k) user
      have hle2 : (l.take k).length ≤ k := List.length_take_le _ _
      obtain ⟨q, hq⟩ : ∃ q, q = ownL (l.take k) user := ⟨_, rfl⟩
      rw [← hq] at hown hle hy hn ⊢
      have HY := Lib.hid hy
      have HN := Lib.hid hn
      clear hq hy hn hl h3
      have hsz := hbel.size
      cases hu : (l[k].user == user)
      · have hne := Lib.hid hu
        go_wp2
        go_roundw
        case rel =>
          have e := HN.out (by simpa using hne.out)
          exact ⟨k + 1, _, c', by omega, by go_num, by rw [e], by rw [e]; exact hown, hbel⟩
        case measure => simp [intOf]; omega
      · have hne := Lib.hid hu
        go_wp2_with (at_builtin; refine app_one ev_elem ev_enc rfl (.tmp 20) (.tmp 25) rfl rfl (hown.alloc _) l[k] wr.heap.size 1 rfl (Blk.lay (Blk.new _ _ _)) (by unfold maxLen; omega) (by omega) (by simp; omega) ?_; intro g' cap w1 hown1 hgrow hat hlt1)
        go_roundw
        case rel =>
          have e := HY.out (by simpa using hne.out)
          refine ⟨k + 1, _, cap, by omega, by go_num, by rw [e, List.length_append]; rfl, by rw [e]; exact hown1, ?_⟩
          exact (hbel.alloc hsz _).grown hgrow (by simp; omega) (fun b hb => (hown.lt b hb).1)
        case measure => simp [intOf]; omega
    · obtain rfl : k = l.length := by omega
      have e : ownL (l.take l.length) user = ownL l user := by rw [List.take_length]
      rw [e] at hown ⊢
      clear e
      go_wp2
      go_ret
      exact ⟨_, rfl, hown, hbel⟩
end Go.Proofs.Ytnkgdabapgdiaaa
