/-
  The reference's line is the program's. No program here. Conditions: none. The reference's line of a request. Conditions: as each states. The reference's texts: small, Hex, an item's Line, a job's Text; its Wrong and Right. Conditions: as each states.
-/
import Derived.Test.YtldjgpnbkbmgoaaGreatDoorPP4
import Derived.Test.YtldjgpnbkbmgoaaGreatDoorPP2
import Derived.Test.YtldjgpnbkbmgoaaGreatDoorLine
import Derived.Test.YtldjgpnbkbmgoaaGreatDoorPP1
import Derived.Test.YtldjgpnbkbmgoaaGreatDoorPP6
import Derived.Test.YtldjgpnbkbmgoaaGreatDoorPP8
import Derived.Deep.RegionHeld3
import Derived.Deep.DeepCutAuto
set_option linter.unusedSimpArgs false
set_option linter.unusedVariables false
set_option maxRecDepth 100000
set_option maxHeartbeats 8000000
namespace Go.Proofs.YtldjgpnbkbmgoaaGreatDoor
open Go.RowKit
def rhead (q : Req) : List UInt8 := txt (u64n q.tenant) ++ [32] ++ txt (u64n q.user) ++ [32] ++ hexT q.secret ++ [32] ++ txt (u64n q.m) ++ [32] ++ opW q.op ++ wordsT (valsR q)
def rlineT (q : Req) : List UInt8 := if q.op = 3 then rhead q ++ [32] ++ quo q.txt else if q.op = 6 then rhead q ++ [32] ++ hexT q.other else if q.op = 7 then rhead q ++ [32] ++ txt q.area else rhead q
theorem joinW_flat : ∀ (x : List UInt8) (r : List (List UInt8)), joinW (x :: r) = x ++ r.flatMap fun w => 32 :: w
  | x, [] => by unfold joinW; rw [Lib.join_one]; simp
  | x, y :: r => by rw [joinW_cons, joinW_flat y r]; simp
theorem wordsT_ns (ns : List Int) : wordsT ns = (nsW ns).flatMap fun w => 32 :: w := by
  unfold wordsT nsW
  rw [List.flatMap_map]
theorem rhead_eq (q : Req) : rhead q = joinW (headW q ++ nsW (valsR q)) := by
  show _ = joinW (txt (u64n q.tenant) :: txt (u64n q.user) :: hexT q.secret :: txt (u64n q.m) :: opW q.op :: nsW (valsR q))
  rw [joinW_flat]
  unfold rhead
  rw [wordsT_ns]
  simp
theorem joinW_last (ws : List (List UInt8)) (h : ws ≠ []) (x : List UInt8) : joinW (ws ++ [x]) = joinW ws ++ [32] ++ x := by
  rw [joinW_snoc ws h x]
  simp
theorem rline_eq (q : Req) (hop : isOp q.op = true) : rlineT q = lineQ q := by
  have hne : headW q ++ nsW (valsR q) ≠ [] := by simp [headW, nsW]
  unfold rlineT lineQ lineW
  rw [rhead_eq]
  obtain ⟨op, e⟩ : ∃ op, q.op = op := ⟨_, rfl⟩
  rw [e] at hop ⊢
  rcases isOp_cases hop with rfl | rfl | rfl | rfl | rfl | rfl | rfl | rfl | rfl | rfl | rfl | rfl | rfl | rfl | rfl | rfl | rfl | rfl | rfl
  · have hf : fieldsW q = nsW (valsR q) := by unfold fieldsW valsR; rw [e]; rfl
    rw [if_neg (by decide), if_neg (by decide), if_neg (by decide), hf]
  · have hf : fieldsW q = nsW (valsR q) := by unfold fieldsW valsR; rw [e]; rfl
    rw [if_neg (by decide), if_neg (by decide), if_neg (by decide), hf]
  · have hf : fieldsW q = [quo q.txt] := by unfold fieldsW; rw [e]; rfl
    have hv : valsR q = [] := by unfold valsR; rw [e]; rfl
    rw [if_pos rfl, ← joinW_last _ hne, hf, hv]
    simp [nsW]
  · have hf : fieldsW q = nsW (valsR q) := by unfold fieldsW valsR; rw [e]; rfl
    rw [if_neg (by decide), if_neg (by decide), if_neg (by decide), hf]
  · have hf : fieldsW q = nsW (valsR q) := by unfold fieldsW valsR; rw [e]; rfl
    rw [if_neg (by decide), if_neg (by decide), if_neg (by decide), hf]
  · have hf : fieldsW q = [hexT q.other] := by unfold fieldsW; rw [e]; rfl
    have hv : valsR q = [] := by unfold valsR; rw [e]; rfl
    rw [if_neg (by decide), if_pos rfl, ← joinW_last _ hne, hf, hv]
    simp [nsW]
  · have hf : fieldsW q = nsW [q.pk] ++ [txt q.area] := by unfold fieldsW; rw [e]; rfl
    have hv : valsR q = [q.pk] := by unfold valsR; rw [e]; rfl
    rw [if_neg (by decide), if_neg (by decide), if_pos rfl, ← joinW_last _ hne, hf, hv]
    simp
  · have hf : fieldsW q = nsW (valsR q) := by unfold fieldsW valsR; rw [e]; rfl
    rw [if_neg (by decide), if_neg (by decide), if_neg (by decide), hf]
  · have hf : fieldsW q = nsW (valsR q) := by unfold fieldsW valsR; rw [e]; rfl
    rw [if_neg (by decide), if_neg (by decide), if_neg (by decide), hf]
  · have hf : fieldsW q = nsW (valsR q) := by unfold fieldsW valsR; rw [e]; rfl
    rw [if_neg (by decide), if_neg (by decide), if_neg (by decide), hf]
  · have hf : fieldsW q = nsW (valsR q) := by unfold fieldsW valsR; rw [e]; rfl
    rw [if_neg (by decide), if_neg (by decide), if_neg (by decide), hf]
  · have hf : fieldsW q = nsW (valsR q) := by unfold fieldsW valsR; rw [e]; rfl
    rw [if_neg (by decide), if_neg (by decide), if_neg (by decide), hf]
  · have hf : fieldsW q = nsW (valsR q) := by unfold fieldsW valsR; rw [e]; rfl
    rw [if_neg (by decide), if_neg (by decide), if_neg (by decide), hf]
  · have hf : fieldsW q = nsW (valsR q) := by unfold fieldsW valsR; rw [e]; rfl
    rw [if_neg (by decide), if_neg (by decide), if_neg (by decide), hf]
  · have hf : fieldsW q = nsW (valsR q) := by unfold fieldsW valsR; rw [e]; rfl
    rw [if_neg (by decide), if_neg (by decide), if_neg (by decide), hf]
  · have hf : fieldsW q = nsW (valsR q) := by unfold fieldsW valsR; rw [e]; rfl
    rw [if_neg (by decide), if_neg (by decide), if_neg (by decide), hf]
  · have hf : fieldsW q = nsW (valsR q) := by unfold fieldsW valsR; rw [e]; rfl
    rw [if_neg (by decide), if_neg (by decide), if_neg (by decide), hf]
  · have hf : fieldsW q = nsW (valsR q) := by unfold fieldsW valsR; rw [e]; rfl
    rw [if_neg (by decide), if_neg (by decide), if_neg (by decide), hf]
  · have hf : fieldsW q = nsW (valsR q) := by unfold fieldsW valsR; rw [e]; rfl
    rw [if_neg (by decide), if_neg (by decide), if_neg (by decide), hf]
end Go.Proofs.YtldjgpnbkbmgoaaGreatDoor
namespace Go.Proofs.YtldjgpnbkbmgoaaGreatDoor
open Go.RowKit
attribute [local go_sem ↓] load_req stop_req
def rlopsL : List (List UInt8) := [] :: opsL
theorem rlops_ok (w : World) : Calls Tryz.prog 80 #[] w (TabPost w rlopsL) := by
  go_enter Tryz.func80, Tryz.ntmps80
  go_wp2
  go_ret
  exact ⟨rfl, rfl⟩
theorem lopW_at {m : Nat} (h1 : 1 ≤ m) (h : m < rlopsL.length) : opW (m : Int) = rlopsL[m] := by
  have h19 : m < 20 := h
  unfold opW
  rw [if_pos (by omega)]
  obtain ⟨k, rfl⟩ : ∃ k, m = k + 1 := ⟨m - 1, by omega⟩
  have hk : k < opsL.length := by show k < 19; omega
  rw [show (((k + 1 : Nat) : Int) - 1).toNat = k by omega, List.getD_eq_getElem?_getD, List.getElem?_eq_getElem hk]
  rfl
theorem wpAnyH_wide {P : Program} {md : Region.Mode} {ops : Array Oper} {Q : Exit → Act → World → Prop} {S S2 : World → Prop} (h : ∀ w, S2 w → S w) : ∀ (fuel : Nat) (listed : Array Bool) (a : Act) (w : World), wpAnyH P md ops Q S2 fuel listed a w → wpAnyH P md ops Q S fuel listed a w
  | 0, _, _, _, k => k
  | fuel + 1, _, _, _, k => ⟨k.1, fun i hi => wpOp_mono (fun a' w' h' => ⟨h w' h'.1, wpAnyH_wide h fuel _ a' w' h'.2⟩) (k.2 i hi)⟩
theorem ite_I {p : List Int → Prop} {c : Prop} [Decidable c] {a b : List Int} (h1 : p a) (h2 : p b) : p (if c then a else b) := by
  split
  · exact h1
  · exact h2
theorem valsR_len (q : Req) : (valsR q).length ≤ 7 := by
  unfold valsR
  repeat' refine ite_I (p := fun l => l.length ≤ 7) ?_ ?_
  all_goals simp only [List.length_cons, List.length_nil, Nat.zero_add]; decide
theorem RQ.to {w wx wy : World} {q : Req} (h : RQ w wx q) (e : wy = wx) : RQ w wy q := by rw [e]; exact h
theorem cell_to {wx wy : World} {p : Addr} {v : Option Value} (h : wx.cell? p = v) (e : wy = wx) : wy.cell? p = v := by rw [e]; exact h
theorem lt_to {wx wy : World} {o : Obj} (e : wy = wx.alloc o) : wx.heap.size < wy.heap.size := by rw [e]; simp
theorem RQ.al {w wx : World} {q : Req} (h : RQ w wx q) (o : Obj) : RQ w (wx.alloc o) q := ⟨h.b0.alloc _, h.bel.alloc h.bel.size _⟩
theorem RQ.dn {w wx : World} {q : Req} (h : RQ w wx q) (n : Nat) : RQ w (wx.drewN n) q := ⟨h.b0, below_drewN h.bel n⟩
theorem rline_ok (q : Req) (w : World) (hop : isOp q.op = true) (hq : q.fits) (ht : q.txt.length ≤ 512) : Calls Tryz.prog 51 #[.agg (rqC q)] w (SPost w (rlineT q)) := by
  have hs1 : q.secret < 18446744073709551616 := Nat.lt_of_lt_of_eq hq.1.1 (by decide)
  have hr := RQ.new w q
  obtain ⟨w1, hst1⟩ : ∃ w1, w.alloc (.cells (rqC q) 60) = w1 := ⟨_, rfl⟩
  rw [hst1] at hr
  have hrd := hr.drew
  obtain ⟨m, hm⟩ : ∃ m : Nat, q.op = (m : Int) ∧ 1 ≤ m ∧ m < 20 := ⟨q.op.toNat, by rcases isOp_cases hop with h | h | h | h | h | h | h | h | h | h | h | h | h | h | h | h | h | h | h <;> rw [h] <;> decide⟩
  obtain ⟨hm1, hm2, hm3⟩ := hm
  have hml : m < rlopsL.length := hm3
  obtain ⟨a, ha⟩ : ∃ a, a = txt (u64n q.tenant) := ⟨_, rfl⟩
  obtain ⟨b, hb⟩ : ∃ b, b = txt (u64n q.user) := ⟨_, rfl⟩
  obtain ⟨c, hc⟩ : ∃ c, c = hexT q.secret := ⟨_, rfl⟩
  obtain ⟨d, hd⟩ : ∃ d, d = txt (u64n q.m) := ⟨_, rfl⟩
  obtain ⟨o, ho⟩ : ∃ o, o = opW q.op := ⟨_, rfl⟩
  obtain ⟨v, hv⟩ : ∃ v, v = wordsT (valsR q) := ⟨_, rfl⟩
  have la : a.length ≤ 20 := by rw [ha]; exact txtF_len 19 _
  have lb : b.length ≤ 20 := by rw [hb]; exact txtF_len 19 _
  have lc : c.length = 16 := by rw [hc]; exact hexF_len 16 _
  have ld : d.length ≤ 20 := by rw [hd]; exact txtF_len 19 _
  have lo : o.length ≤ 10 := by rw [ho]; exact opW_len _
  have lv : v.length ≤ 147 := by rw [hv]; have := wordsT_len (valsR q); have := valsR_len q; omega
  have HA := Lib.hid (fun w => rtext_eq (IntKind.u64.wrap q.tenant) _ (u64n_wrap q.tenant) (u64n_lt _) w)
  have HB := Lib.hid (fun w => rtext_eq (IntKind.u64.wrap q.user) _ (u64n_wrap q.user) (u64n_lt _) w)
  have HC := Lib.hid (fun w => rhexT_ok q.secret w hs1)
  have HD := Lib.hid (fun w => rtext_eq (IntKind.u64.wrap q.m) _ (u64n_wrap q.m) (u64n_lt _) w)
  rw [← ha] at HA
  rw [← hb] at HB
  rw [← hc] at HC
  rw [← hd] at HD
  obtain ⟨p1, g1⟩ : ∃ p, p = a ++ [32] := ⟨_, rfl⟩
  have e1 : ∀ w, (Op.stringOp .add ⟨a.toArray⟩ ⟨#[32]⟩).run Tryz.prog w = .ok (strV p1) w := fun w => by rw [g1]; exact str_add a [32] (by simp; omega) w
  obtain ⟨p2, g2⟩ : ∃ p, p = p1 ++ b := ⟨_, rfl⟩
  have e2 : ∀ w, (Op.stringOp .add ⟨p1.toArray⟩ ⟨b.toArray⟩).run Tryz.prog w = .ok (strV p2) w := fun w => by rw [g2]; exact str_add p1 b (by simp [g1]; omega) w
  obtain ⟨p3, g3⟩ : ∃ p, p = p2 ++ [32] := ⟨_, rfl⟩
  have e3 : ∀ w, (Op.stringOp .add ⟨p2.toArray⟩ ⟨#[32]⟩).run Tryz.prog w = .ok (strV p3) w := fun w => by rw [g3]; exact str_add p2 [32] (by simp [g1, g2]; omega) w
  obtain ⟨p4, g4⟩ : ∃ p, p = p3 ++ c := ⟨_, rfl⟩
  have e4 : ∀ w, (Op.stringOp .add ⟨p3.toArray⟩ ⟨c.toArray⟩).run Tryz.prog w = .ok (strV p4) w := fun w => by rw [g4]; exact str_add p3 c (by simp [g1, g2, g3]; omega) w
  obtain ⟨p5, g5⟩ : ∃ p, p = p4 ++ [32] := ⟨_, rfl⟩
  have e5 : ∀ w, (Op.stringOp .add ⟨p4.toArray⟩ ⟨#[32]⟩).run Tryz.prog w = .ok (strV p5) w := fun w => by rw [g5]; exact str_add p4 [32] (by simp [g1, g2, g3, g4]; omega) w
  obtain ⟨p6, g6⟩ : ∃ p, p = p5 ++ d := ⟨_, rfl⟩
  have e6 : ∀ w, (Op.stringOp .add ⟨p5.toArray⟩ ⟨d.toArray⟩).run Tryz.prog w = .ok (strV p6) w := fun w => by rw [g6]; exact str_add p5 d (by simp [g1, g2, g3, g4, g5]; omega) w
  obtain ⟨p7, g7⟩ : ∃ p, p = p6 ++ [32] := ⟨_, rfl⟩
  have e7 : ∀ w, (Op.stringOp .add ⟨p6.toArray⟩ ⟨#[32]⟩).run Tryz.prog w = .ok (strV p7) w := fun w => by rw [g7]; exact str_add p6 [32] (by simp [g1, g2, g3, g4, g5, g6]; omega) w
  obtain ⟨p8, g8⟩ : ∃ p, p = p7 ++ o := ⟨_, rfl⟩
  have e8 : ∀ w, (Op.stringOp .add ⟨p7.toArray⟩ ⟨o.toArray⟩).run Tryz.prog w = .ok (strV p8) w := fun w => by rw [g8]; exact str_add p7 o (by simp [g1, g2, g3, g4, g5, g6, g7]; omega) w
  obtain ⟨p9, g9⟩ : ∃ p, p = p8 ++ v := ⟨_, rfl⟩
  have e9 : ∀ w, (Op.stringOp .add ⟨p8.toArray⟩ ⟨v.toArray⟩).run Tryz.prog w = .ok (strV p9) w := fun w => by rw [g9]; exact str_add p8 v (by simp [g1, g2, g3, g4, g5, g6, g7, g8]; omega) w
  have HH := Lib.hid (show rhead q = p9 by unfold rhead; rw [g9, g8, g7, g6, g5, g4, g3, g2, g1, ha, hb, hc, hd, ho, hv])
  have hp9 : p9.length ≤ 1000 := by simp [g9, g8, g7, g6, g5, g4, g3, g2, g1]; omega
  have HV := Lib.hid (fun w => vals_ok q hop w)
  have HW := Lib.hid (fun g w' (hs : Lay w' g 0 ((valsR q).flatMap izC)) => rwords_ok (valsR q) g w' hs (by have := valsR_len q; omega))
  rw [← hv] at HW
  have HO := Lib.hid (fun w : World => words_cell w rlopsL m hml)
  rw [← lopW_at hm2 hml, ← hm1, ← ho] at HO
  have hvl := valsR_len q
  obtain ⟨N, hN⟩ : ∃ N, N = (valsR q).length := ⟨_, rfl⟩
  have HSB := Lib.hid (fun w' (h : RQ w w' q) => (⟨by rw [← hm1]; exact h.b0.is 0 rfl, h.b0.is 1 rfl, h.b0.is 2 rfl, h.b0.is 3 rfl, h.b0.is 4 rfl, loadReq_row h.b0⟩ :
    w'.cell? ⟨w.heap.size, 0, none⟩ = some (.int .i64 (m : Int)) ∧ w'.cell? ⟨w.heap.size, 1, none⟩ = some (.int .i64 q.tenant) ∧ w'.cell? ⟨w.heap.size, 2, none⟩ = some (.int .i64 q.user) ∧ w'.cell? ⟨w.heap.size, 3, none⟩ = some (.int .u64 (q.secret : Nat)) ∧ w'.cell? ⟨w.heap.size, 4, none⟩ = some (.int .i64 q.m) ∧ loadReq (.pointer (some ⟨w.heap.size, 0, none⟩)) w' = .ok (.value (.agg (rqC q))) w'))
  have HRL := Lib.hid (show (rhead q).length ≤ 1000 by rw [HH.out]; exact hp9)
  have HQ := Lib.hid hq
  have HT := Lib.hid ht
  have HM := Lib.hid hm1
  clear g1 g2 g3 g4 g5 g6 g7 g8 g9 hp9 ha hb hc hd ho hv la lb lc ld lo lv hs1 hr hop hq hvl ht hm1
  have hm4 : (m : Int) < 20 := by omega
  go_enter Tryz.func51, Tryz.ntmps51
  go_upto_region 1 with fail
  go_cut [3] (fun x wx => x = strV (rhead q) ∧ RQ w wx q)
  case first =>
    refine wp_region_held_drew (S := fun w' => w'.cell? ⟨w.heap.size, 0, none⟩ = some (.int .i64 (m : Int)) ∧ w'.cell? ⟨w.heap.size, 1, none⟩ = some (.int .i64 q.tenant) ∧ w'.cell? ⟨w.heap.size, 2, none⟩ = some (.int .i64 q.user) ∧ w'.cell? ⟨w.heap.size, 3, none⟩ = some (.int .u64 (q.secret : Nat)) ∧ w'.cell? ⟨w.heap.size, 4, none⟩ = some (.int .i64 q.m) ∧ loadReq (.pointer (some ⟨w.heap.size, 0, none⟩)) w' = .ok (.value (.agg (rqC q))) w') (by kernel_rfl) (HSB.out _ hrd) (fun hHeld => ?_)
    refine wpAnyH_take (i := 0) (oi := ⟨some 4, _, _, _, _, _⟩) (v := ?vv0) rfl (by kernel_rfl) (by kernel_rfl) (by kernel_rfl) (fun _ _ _ h => h) (Or.inl ⟨by rfl, ?hy0⟩) (by assumption) ?rst0
    case hy0 =>
      intro w' hSw
      (try dsimp only at hSw)
      go_simp
      all_goals with_reducible rfl
    case rst0 =>
    simp only [Act.put, List.setIfInBounds_toArray, List.set_cons_zero, List.set_cons_succ]
    refine wpAnyH_take (i := 1) (oi := ⟨some 5, _, _, _, _, _⟩) (v := ?vv1) rfl (by kernel_rfl) (by kernel_rfl) (by kernel_rfl) (fun _ _ _ h => h) (Or.inl ⟨by rfl, ?hy1⟩) (by assumption) ?rst1
    case hy1 =>
      intro w' hSw
      (try dsimp only at hSw)
      go_simp
      all_goals with_reducible rfl
    case rst1 =>
    simp only [Act.put, List.setIfInBounds_toArray, List.set_cons_zero, List.set_cons_succ]
    refine wpAnyH_take (i := 2) (oi := ⟨some 6, _, _, _, _, _⟩) (v := ?vv2) rfl (by kernel_rfl) (by kernel_rfl) (by kernel_rfl) (fun _ _ _ h => h) (Or.inl ⟨by rfl, ?hy2⟩) (by assumption) ?rst2
    case hy2 =>
      intro w' hSw
      (try dsimp only at hSw)
      go_simp
      all_goals with_reducible rfl
    case rst2 =>
    simp only [Act.put, List.setIfInBounds_toArray, List.set_cons_zero, List.set_cons_succ]
    refine wpAnyH_take (i := 5) (oi := ⟨some 9, _, _, _, _, _⟩) (v := ?vv5) rfl (by kernel_rfl) (by kernel_rfl) (by kernel_rfl) (fun _ _ _ h => h) (Or.inl ⟨by rfl, ?hy5⟩) (by assumption) ?rst5
    case hy5 =>
      intro w' hSw
      (try dsimp only at hSw)
      go_simp
      all_goals with_reducible rfl
    case rst5 =>
    simp only [Act.put, List.setIfInBounds_toArray, List.set_cons_zero, List.set_cons_succ]
    refine wpAnyH_take (i := 6) (oi := ⟨some 10, _, _, _, _, _⟩) (v := ?vv6) rfl (by kernel_rfl) (by kernel_rfl) (by kernel_rfl) (fun _ _ _ h => h) (Or.inl ⟨by rfl, ?hy6⟩) (by assumption) ?rst6
    case hy6 =>
      intro w' hSw
      (try dsimp only at hSw)
      go_simp
      all_goals with_reducible rfl
    case rst6 =>
    simp only [Act.put, List.setIfInBounds_toArray, List.set_cons_zero, List.set_cons_succ]
    refine wpAnyH_take (i := 7) (oi := ⟨some 11, _, _, _, _, _⟩) (v := ?vv7) rfl (by kernel_rfl) (by kernel_rfl) (by kernel_rfl) (fun _ _ _ h => h) (Or.inl ⟨by rfl, ?hy7⟩) (by assumption) ?rst7
    case hy7 =>
      intro w' hSw
      (try dsimp only at hSw)
      go_simp
      all_goals with_reducible rfl
    case rst7 =>
    simp only [Act.put, List.setIfInBounds_toArray, List.set_cons_zero, List.set_cons_succ]
    refine wpAnyH_take (i := 11) (oi := ⟨some 15, _, _, _, _, _⟩) (v := ?vv11) rfl (by kernel_rfl) (by kernel_rfl) (by kernel_rfl) (fun _ _ _ h => h) (Or.inl ⟨by rfl, ?hy11⟩) (by assumption) ?rst11
    case hy11 =>
      intro w' hSw
      (try dsimp only at hSw)
      go_simp
      all_goals with_reducible rfl
    case rst11 =>
    simp only [Act.put, List.setIfInBounds_toArray, List.set_cons_zero, List.set_cons_succ]
    refine wpAnyH_take (i := 12) (oi := ⟨some 16, _, _, _, _, _⟩) (v := ?vv12) rfl (by kernel_rfl) (by kernel_rfl) (by kernel_rfl) (fun _ _ _ h => h) (Or.inl ⟨by rfl, ?hy12⟩) (by assumption) ?rst12
    case hy12 =>
      intro w' hSw
      (try dsimp only at hSw)
      go_simp
      all_goals with_reducible rfl
    case rst12 =>
    simp only [Act.put, List.setIfInBounds_toArray, List.set_cons_zero, List.set_cons_succ]
    refine wpAnyH_take (i := 16) (oi := ⟨some 20, _, _, _, _, _⟩) (v := ?vv16) rfl (by kernel_rfl) (by kernel_rfl) (by kernel_rfl) (fun _ _ _ h => h) (Or.inl ⟨by rfl, ?hy16⟩) (by assumption) ?rst16
    case hy16 =>
      intro w' hSw
      (try dsimp only at hSw)
      go_simp
      all_goals with_reducible rfl
    case rst16 =>
    simp only [Act.put, List.setIfInBounds_toArray, List.set_cons_zero, List.set_cons_succ]
    refine wpAnyH_take (i := 17) (oi := ⟨some 21, _, _, _, _, _⟩) (v := ?vv17) rfl (by kernel_rfl) (by kernel_rfl) (by kernel_rfl) (fun _ _ _ h => h) (Or.inl ⟨by rfl, ?hy17⟩) (by assumption) ?rst17
    case hy17 =>
      intro w' hSw
      (try dsimp only at hSw)
      go_simp
      all_goals with_reducible rfl
    case rst17 =>
    simp only [Act.put, List.setIfInBounds_toArray, List.set_cons_zero, List.set_cons_succ]
    refine wpAnyH_take (i := 18) (oi := ⟨some 22, _, _, _, _, _⟩) (v := ?vv18) rfl (by kernel_rfl) (by kernel_rfl) (by kernel_rfl) (fun _ _ _ h => h) (Or.inl ⟨by rfl, ?hy18⟩) (by assumption) ?rst18
    case hy18 =>
      intro w' hSw
      (try dsimp only at hSw)
      go_simp
      all_goals with_reducible rfl
    case rst18 =>
    simp only [Act.put, List.setIfInBounds_toArray, List.set_cons_zero, List.set_cons_succ]
    refine wpAnyH_take (i := 23) (oi := ⟨some 27, _, _, _, _, _⟩) (v := ?vv23) rfl (by kernel_rfl) (by kernel_rfl) (by kernel_rfl) (fun _ _ _ h => h) (Or.inl ⟨by rfl, ?hy23⟩) (by assumption) ?rst23
    case hy23 =>
      intro w' hSw
      (try dsimp only at hSw)
      go_simp
      all_goals with_reducible rfl
    case rst23 =>
    simp only [Act.put, List.setIfInBounds_toArray, List.set_cons_zero, List.set_cons_succ]
    refine wpAnyH_take (i := 24) (oi := ⟨some 28, _, _, _, _, _⟩) (v := ?vv24) rfl (by kernel_rfl) (by kernel_rfl) (by kernel_rfl) (fun _ _ _ h => h) (Or.inl ⟨by rfl, ?hy24⟩) (by assumption) ?rst24
    case hy24 =>
      intro w' hSw
      (try dsimp only at hSw)
      go_simp
      all_goals with_reducible rfl
    case rst24 =>
    simp only [Act.put, List.setIfInBounds_toArray, List.set_cons_zero, List.set_cons_succ]
    refine wpAnyH_take (i := 28) (oi := ⟨some 32, _, _, _, _, _⟩) (v := ?vv28) rfl (by kernel_rfl) (by kernel_rfl) (by kernel_rfl) (fun _ _ _ h => h) (Or.inl ⟨by rfl, ?hy28⟩) (by assumption) ?rst28
    case hy28 =>
      intro w' hSw
      (try dsimp only at hSw)
      show (execOp _ ⟨some 32, .load 60 (.tmp 1), 60, _, _, _⟩).run Tryz.prog _ = _
      go_simp
      all_goals with_reducible rfl
    case rst28 =>
    simp only [Act.put, List.setIfInBounds_toArray, List.set_cons_zero, List.set_cons_succ]
    refine wpAnyH_ready (rs := [3]) (by kernel_rfl) (by simp) ?_
    refine AllReadyH.cons rfl (fun K hK => ?_) AllReadyH.nil
    go_simp
    refine (HA.out _).mono ?_
    rintro e wa ⟨rfl, ma, hwa⟩
    have hra : RQ w wa q := (hrd.dn ma).to hwa
    clear hwa
    go_wp2_with fail
    refine hK.out _ _ (HSB.out _ hra) (fun hHeld => ?_)
    clear hK K
    (try simp only [Act.put, List.setIfInBounds_toArray, List.set_cons_zero, List.set_cons_succ])
    refine wpAnyH_take (i := 4) (oi := ⟨some 8, _, _, _, _, _⟩) (v := ?vv4) rfl (by kernel_rfl) (by kernel_rfl) (by kernel_rfl) (fun _ _ _ h => h) (Or.inl ⟨by rfl, ?hy4⟩) (by assumption) ?rst4
    case hy4 =>
      intro w' hSw
      (try dsimp only at hSw)
      go_simp
      all_goals with_reducible rfl
    case rst4 =>
    simp only [Act.put, List.setIfInBounds_toArray, List.set_cons_zero, List.set_cons_succ]
    refine wpAnyH_ready (rs := [8]) (by kernel_rfl) (by simp) ?_
    refine AllReadyH.cons rfl (fun K hK => ?_) AllReadyH.nil
    go_simp
    refine (HB.out _).mono ?_
    rintro e wb ⟨rfl, mb, hwb⟩
    have hrb : RQ w wb q := (hra.dn mb).to hwb
    clear hwb
    go_wp2_with fail
    refine hK.out _ _ (HSB.out _ hrb) (fun hHeld => ?_)
    clear hK K
    (try simp only [Act.put, List.setIfInBounds_toArray, List.set_cons_zero, List.set_cons_succ])
    refine wpAnyH_take (i := 9) (oi := ⟨some 13, _, _, _, _, _⟩) (v := ?vv9) rfl (by kernel_rfl) (by kernel_rfl) (by kernel_rfl) (fun _ _ _ h => h) (Or.inl ⟨by rfl, ?hy9⟩) (by assumption) ?rst9
    case hy9 =>
      intro w' hSw
      (try dsimp only at hSw)
      go_simp
      all_goals with_reducible rfl
    case rst9 =>
    simp only [Act.put, List.setIfInBounds_toArray, List.set_cons_zero, List.set_cons_succ]
    refine wpAnyH_take (i := 10) (oi := ⟨some 14, _, _, _, _, _⟩) (v := ?vv10) rfl (by kernel_rfl) (by kernel_rfl) (by kernel_rfl) (fun _ _ _ h => h) (Or.inl ⟨by rfl, ?hy10⟩) (by assumption) ?rst10
    case hy10 =>
      intro w' hSw
      (try dsimp only at hSw)
      go_simp
      all_goals with_reducible rfl
    case rst10 =>
    simp only [Act.put, List.setIfInBounds_toArray, List.set_cons_zero, List.set_cons_succ]
    refine wpAnyH_ready (rs := [13]) (by kernel_rfl) (by simp) ?_
    refine AllReadyH.cons rfl (fun K hK => ?_) AllReadyH.nil
    go_simp
    refine (HC.out _).mono ?_
    rintro e wc ⟨rfl, hwc⟩
    have hrc : RQ w wc q := hrb.to hwc
    clear hwc
    go_wp2_with fail
    refine hK.out _ _ (HSB.out _ hrc) (fun hHeld => ?_)
    clear hK K
    (try simp only [Act.put, List.setIfInBounds_toArray, List.set_cons_zero, List.set_cons_succ])
    refine wpAnyH_take (i := 14) (oi := ⟨some 18, _, _, _, _, _⟩) (v := ?vv14) rfl (by kernel_rfl) (by kernel_rfl) (by kernel_rfl) (fun _ _ _ h => h) (Or.inl ⟨by rfl, ?hy14⟩) (by assumption) ?rst14
    case hy14 =>
      intro w' hSw
      (try dsimp only at hSw)
      go_simp
      all_goals with_reducible rfl
    case rst14 =>
    simp only [Act.put, List.setIfInBounds_toArray, List.set_cons_zero, List.set_cons_succ]
    refine wpAnyH_take (i := 15) (oi := ⟨some 19, _, _, _, _, _⟩) (v := ?vv15) rfl (by kernel_rfl) (by kernel_rfl) (by kernel_rfl) (fun _ _ _ h => h) (Or.inl ⟨by rfl, ?hy15⟩) (by assumption) ?rst15
    case hy15 =>
      intro w' hSw
      (try dsimp only at hSw)
      go_simp
      all_goals with_reducible rfl
    case rst15 =>
    simp only [Act.put, List.setIfInBounds_toArray, List.set_cons_zero, List.set_cons_succ]
    refine wpAnyH_ready (rs := [19]) (by kernel_rfl) (by simp) ?_
    refine AllReadyH.cons rfl (fun K hK => ?_) AllReadyH.nil
    go_simp
    refine (HD.out _).mono ?_
    rintro e wd ⟨rfl, md, hwd⟩
    have hre : RQ w wd q := (hrc.dn md).to hwd
    clear hwd
    go_wp2_with fail
    refine hK.out _ _ (HSB.out _ hre) (fun hHeld => ?_)
    clear hK K
    (try simp only [Act.put, List.setIfInBounds_toArray, List.set_cons_zero, List.set_cons_succ])
    refine wpAnyH_take (i := 20) (oi := ⟨some 24, _, _, _, _, _⟩) (v := ?vv20) rfl (by kernel_rfl) (by kernel_rfl) (by kernel_rfl) (fun _ _ _ h => h) (Or.inl ⟨by rfl, ?hy20⟩) (by assumption) ?rst20
    case hy20 =>
      intro w' hSw
      (try dsimp only at hSw)
      go_simp
      all_goals with_reducible rfl
    case rst20 =>
    simp only [Act.put, List.setIfInBounds_toArray, List.set_cons_zero, List.set_cons_succ]
    refine wpAnyH_take (i := 21) (oi := ⟨some 25, _, _, _, _, _⟩) (v := ?vv21) rfl (by kernel_rfl) (by kernel_rfl) (by kernel_rfl) (fun _ _ _ h => h) (Or.inl ⟨by rfl, ?hy21⟩) (by assumption) ?rst21
    case hy21 =>
      intro w' hSw
      (try dsimp only at hSw)
      go_simp
      all_goals with_reducible rfl
    case rst21 =>
    simp only [Act.put, List.setIfInBounds_toArray, List.set_cons_zero, List.set_cons_succ]
    refine wpAnyH_ready (rs := [22]) (by kernel_rfl) (by simp) ?_
    refine AllReadyH.cons rfl (fun K hK => ?_) AllReadyH.nil
    go_simp
    refine (rlops_ok _).mono ?_
    rintro e wo ⟨rfl, hwo⟩
    have hrf : RQ w wo q := (hre.al _).to hwo
    have hco : wo.cell? ⟨wd.heap.size, m, none⟩ = some (strV o) := cell_to (HO.out _) hwo
    have hso : wd.heap.size < wo.heap.size := lt_to hwo
    clear hwo
    go_wp2_with fail
    refine hK.out _ _ (HSB.out _ hrf) (fun hHeld => ?_)
    clear hK K
    (try simp only [Act.put, List.setIfInBounds_toArray, List.set_cons_zero, List.set_cons_succ])
    refine wpAnyH_wide (S2 := fun w' => w'.cell? ⟨wd.heap.size, m, none⟩ = some (strV o) ∧ w'.cell? ⟨w.heap.size, 0, none⟩ = some (.int .i64 (m : Int)) ∧ w'.cell? ⟨w.heap.size, 1, none⟩ = some (.int .i64 q.tenant) ∧ w'.cell? ⟨w.heap.size, 2, none⟩ = some (.int .i64 q.user) ∧ w'.cell? ⟨w.heap.size, 3, none⟩ = some (.int .u64 (q.secret : Nat)) ∧ w'.cell? ⟨w.heap.size, 4, none⟩ = some (.int .i64 q.m) ∧ loadReq (.pointer (some ⟨w.heap.size, 0, none⟩)) w' = .ok (.value (.agg (rqC q))) w') (fun _ h => h.2) _ _ _ _ ?_
    have hHeld2 := And.intro hco hHeld
    refine wpAnyH_take (i := 25) (oi := ⟨some 29, _, _, _, _, _⟩) (v := ?vv25) rfl (by kernel_rfl) (by kernel_rfl) (by kernel_rfl) (fun _ _ _ h => h) (Or.inl ⟨by rfl, ?hy25⟩) (by assumption) ?rst25
    case hy25 =>
      intro w' hSw
      (try dsimp only at hSw)
      go_simp
      all_goals with_reducible rfl
    case rst25 =>
    simp only [Act.put, List.setIfInBounds_toArray, List.set_cons_zero, List.set_cons_succ]
    refine wpAnyH_take (i := 26) (oi := ⟨some 30, _, _, _, _, _⟩) (v := ?vv26) rfl (by kernel_rfl) (by kernel_rfl) (by kernel_rfl) (fun _ _ _ h => h) (Or.inl ⟨by rfl, ?hy26⟩) (by assumption) ?rst26
    case hy26 =>
      intro w' hSw
      (try dsimp only at hSw)
      go_simp
      all_goals with_reducible rfl
    case rst26 =>
    simp only [Act.put, List.setIfInBounds_toArray, List.set_cons_zero, List.set_cons_succ]
    refine wpAnyH_take (i := 27) (oi := ⟨some 31, _, _, _, _, _⟩) (v := ?vv27) rfl (by kernel_rfl) (by kernel_rfl) (by kernel_rfl) (fun _ _ _ h => h) (Or.inl ⟨by rfl, ?hy27⟩) (by assumption) ?rst27
    case hy27 =>
      intro w' hSw
      (try dsimp only at hSw)
      go_simp
      all_goals with_reducible rfl
    case rst27 =>
    simp only [Act.put, List.setIfInBounds_toArray, List.set_cons_zero, List.set_cons_succ]
    refine wpAnyH_ready (rs := [29]) (by kernel_rfl) (by simp) ?_
    refine AllReadyH.cons rfl (fun K hK => ?_) AllReadyH.nil
    go_simp
    refine (HV.out _).mono ?_
    rintro e wv ⟨sv, rfl, ⟨g, rfl, hg1, hg2, hlay⟩, hbv⟩
    have hrg : RQ w wv q := hrf.below hbv
    have hcv : wv.cell? ⟨wd.heap.size, m, none⟩ = some (strV o) := (hbv.cell (p := ⟨wd.heap.size, m, none⟩) hso).trans hco
    clear hbv
    go_wp2_with fail
    refine hK.out _ _ (And.intro hcv (HSB.out _ hrg)) (fun hHeld => ?_)
    clear hK K
    (try simp only [Act.put, List.setIfInBounds_toArray, List.set_cons_zero, List.set_cons_succ])
    refine wpAnyH_ready (rs := [30]) (by kernel_rfl) (by simp) ?_
    refine AllReadyH.cons rfl (fun K hK => ?_) AllReadyH.nil
    go_simp
    refine (HW.out g _ hlay).mono ?_
    rintro e ww ⟨rfl, mw, hww⟩
    have hrh : RQ w ww q := (hrg.dn mw).to hww
    have hcw : ww.cell? ⟨wd.heap.size, m, none⟩ = some (strV o) := cell_to (wx := wv.drewN mw) hcv hww
    clear hww
    go_wp2_with fail
    refine hK.out _ _ (And.intro hcw (HSB.out _ hrh)) (fun hHeld => ?_)
    clear hK K
    (try simp only [Act.put, List.setIfInBounds_toArray, List.set_cons_zero, List.set_cons_succ])
    refine wpAnyH_take (i := 31) (oi := ⟨some 35, _, _, _, _, _⟩) (v := ?vv31) rfl (by kernel_rfl) (by kernel_rfl) (by kernel_rfl) (fun _ _ _ h => h) (Or.inl ⟨by rfl, ?hy31⟩) (by assumption) ?rst31
    case hy31 =>
      intro w' hSw
      (try dsimp only at hSw)
      go_simp
      all_goals with_reducible rfl
    case rst31 =>
    simp only [Act.put, List.setIfInBounds_toArray, List.set_cons_zero, List.set_cons_succ]
    refine wpAnyH_take (i := 32) (oi := ⟨some 3, _, _, _, _, _⟩) (v := ?vv32) rfl (by kernel_rfl) (by kernel_rfl) (by kernel_rfl) (fun _ _ _ h => h) (Or.inl ⟨by rfl, ?hy32⟩) (by assumption) ?rst32
    case hy32 =>
      intro w' hSw
      (try dsimp only at hSw)
      go_simp
      all_goals with_reducible rfl
    case rst32 =>
    simp only [Act.put, List.setIfInBounds_toArray, List.set_cons_zero, List.set_cons_succ]
    refine wpAnyH_done (by kernel_rfl) ?_ _
    go_wp2_with fail
    go_meet
    exact ⟨by rw [HH.out], by assumption⟩
  case rest =>
  obtain ⟨rfl, hr⟩ := hcut
  have HR := Lib.hid hr
  obtain ⟨R, hRR⟩ : ∃ R, rhead q = R := ⟨_, rfl⟩
  have hRl : R.length ≤ 1000 := by rw [← hRR]; exact HRL.out
  have e1 := fun w => str_add R [32] (by simp; omega) w
  rw [hRR]
  clear hr hrd HA HB HC HD HH HV HW HO HSB e2 e3 e4 e5 e6 e7 e8 e9 hN HRL hm4 hml hst1
  by_cases h3 : m = 3
  · have hop : q.op = 3 := by rw [HM.out, h3]; rfl
    have c0 := (show World.cell? _ ⟨w.heap.size, 0, none⟩ = some (.int .i64 3) from by rw [← hop]; exact HR.out.b0.is 0 rfl)
    have c9 := (show World.cell? _ ⟨w.heap.size, 9, none⟩ = some (strV q.txt) from by exact HR.out.b0.is 9 rfl)
    have hT : rlineT q = R ++ [32] ++ quo q.txt := by unfold rlineT; rw [if_pos hop, hRR]
    have HTT := Lib.hid hT
    have HX := Lib.hid (fun w => rquoted_ok q.txt w (by have := HT.out; omega))
    obtain ⟨x, hx⟩ : ∃ x, x = quo q.txt := ⟨_, rfl⟩
    have xl : x.length ≤ 10000 := by rw [hx]; have := quo_len q.txt; have := HT.out; omega
    rw [← hx] at HX HTT
    have e2 := fun w => str_add (R ++ [32]) x (by simp; omega) w
    clear hT hop h3 hRR hx xl
    go_wp2_with fail
    refine (HX.out _).mono ?_
    rintro e w' ⟨rfl, hw'⟩
    have HB2 := Lib.hid (show Below w.heap.size w w' by rw [hw']; exact HR.out.bel)
    rw [hw']
    rw [hw'] at HB2
    clear hw' w'
    go_wp2
    go_ret
    exact ⟨ret_v (by rw [HTT.out]; first | done | simp), HB2.out⟩
  by_cases h6 : m = 6
  · have hop : q.op = 6 := by rw [HM.out, h6]; rfl
    have c0 := (show World.cell? _ ⟨w.heap.size, 0, none⟩ = some (.int .i64 6) from by rw [← hop]; exact HR.out.b0.is 0 rfl)
    have c17 := (show World.cell? _ ⟨w.heap.size, 17, none⟩ = some (.int .u64 (q.other : Nat)) from by exact HR.out.b0.is 17 rfl)
    have hT : rlineT q = R ++ [32] ++ hexT q.other := by unfold rlineT; rw [if_neg (by rw [hop]; decide), if_pos hop, hRR]
    have HTT := Lib.hid hT
    have HX := Lib.hid (fun w => rhexT_ok q.other w (Nat.lt_of_lt_of_eq HQ.out.1.2.1 (by decide)))
    obtain ⟨x, hx⟩ : ∃ x, x = hexT q.other := ⟨_, rfl⟩
    have xl : x.length ≤ 10000 := by rw [hx, show (hexT q.other).length = 16 from hexF_len 16 _]; decide
    rw [← hx] at HX HTT
    have e2 := fun w => str_add (R ++ [32]) x (by simp; omega) w
    clear hT hop h6 hRR hx xl
    go_wp2_with fail
    refine (HX.out _).mono ?_
    rintro e w' ⟨rfl, hw'⟩
    have HB2 := Lib.hid (show Below w.heap.size w w' by rw [hw']; exact HR.out.bel)
    rw [hw']
    rw [hw'] at HB2
    clear hw' w'
    go_wp2
    go_ret
    exact ⟨ret_v (by rw [HTT.out]; first | done | simp), HB2.out⟩
  by_cases h7 : m = 7
  · have hop : q.op = 7 := by rw [HM.out, h7]; rfl
    have c0 := (show World.cell? _ ⟨w.heap.size, 0, none⟩ = some (.int .i64 7) from by rw [← hop]; exact HR.out.b0.is 0 rfl)
    have c19 := (show World.cell? _ ⟨w.heap.size, 19, none⟩ = some (.int .u64 (q.area : Nat)) from by exact HR.out.b0.is 19 rfl)
    have hT : rlineT q = R ++ [32] ++ txt q.area := by unfold rlineT; rw [if_neg (by rw [hop]; decide), if_neg (by rw [hop]; decide), if_pos hop, hRR]
    have HTT := Lib.hid hT
    have HX := Lib.hid (fun w => rtext_ok q.area w (Nat.lt_of_lt_of_eq HQ.out.1.2.2 (by decide)))
    obtain ⟨x, hx⟩ : ∃ x, x = txt q.area := ⟨_, rfl⟩
    have xl : x.length ≤ 10000 := by rw [hx]; have : (txt q.area).length ≤ 20 := txtF_len 19 _; omega
    rw [← hx] at HX HTT
    have e2 := fun w => str_add (R ++ [32]) x (by simp; omega) w
    clear hT hop h7 hRR hx xl
    go_wp2_with fail
    refine (HX.out _).mono ?_
    rintro e w' ⟨rfl, m', hw'⟩
    have HB2 := Lib.hid (show Below w.heap.size w w' by rw [hw']; exact (HR.out.dn m').bel)
    clear hw'
    go_wp2
    go_ret
    exact ⟨ret_v (by rw [HTT.out]; first | done | simp), HB2.out⟩
  have c0 := (show World.cell? _ ⟨w.heap.size, 0, none⟩ = some (.int .i64 (m : Int)) from by rw [← HM.out]; exact HR.out.b0.is 0 rfl)
  have k3 : ((m : Int) == 3) = false := by rw [beq_eq_false_iff_ne]; omega
  have k6 : ((m : Int) == 6) = false := by rw [beq_eq_false_iff_ne]; omega
  have k7 : ((m : Int) == 7) = false := by rw [beq_eq_false_iff_ne]; omega
  have hT : rlineT q = R := by unfold rlineT; rw [HM.out, if_neg (by omega), if_neg (by omega), if_neg (by omega), hRR]
  have HTT := Lib.hid hT
  clear hT h3 h6 h7 hRR
  go_wp2
  go_ret
  exact ⟨ret_v (by rw [HTT.out]; first | done | simp), HR.out.bel⟩
end Go.Proofs.YtldjgpnbkbmgoaaGreatDoor

namespace Go.Proofs.YtldjgpnbkbmgoaaGreatDoor
open Go.RowKit Go.Lib
attribute [local go_sem ↓] load_req stop_req
theorem loadReq_at {w : World} {g o : Nat} {q : Req} (h : Lay w g o (rqC q).toList) : loadReq (.pointer (some ⟨g, o, none⟩)) w = .ok (.value (.agg (rqC q))) w := by
  unfold loadReq execOp
  simp only [Instr.loadAt, Instr.sureAddr, Sem.run_bind, Sem.run_pure, Result.andThen_ok, run_loadVar_mid w g o _ (rqC q).toList _ h Tryz.underlying60 rfl (by simpa using rq_size q), Array.toArray_toList]
theorem rhexT_b (n : Nat) (w : World) (hn : n < 18446744073709551616) : Calls Tryz.prog 29 #[.int .u64 (n : Nat)] w (SPost w (hexT n)) :=
  (rhexT_ok n w hn).mono fun _ w' ⟨h1, h2⟩ => ⟨h1, by rw [h2]; exact Below.refl _ _⟩
theorem rsmall_b (n : Int) (w : World) : Calls Tryz.prog 49 #[.int .i64 n] w (SPost w (smallT n)) := by
  have HC := Lib.hid (fun w => rtext_eq (IntKind.u64.wrap n) (u64n n) (u64n_wrap n) (u64n_lt n) w)
  go_enter Tryz.func49, Tryz.ntmps49
  go_wp2_with fail
  refine (HC.out _).mono ?_
  rintro e w1 ⟨rfl, m, rfl⟩
  go_wp2_with fail
  go_ret
  exact ⟨rfl, below_drewN (Below.refl _ _) m⟩
theorem rhex29_b (l : List UInt8) (s : Value) (w : World) (hs : Sl byC w w.heap.size s l) (hl : l.length ≤ 100000) : Calls Tryz.prog 50 #[s] w (SPost w (hexB l)) := by
  obtain ⟨A, ca, rfl, h1, h2, h3⟩ := hs
  have H3 := Lib.hid h3
  clear h3 h2
  by_cases h0 : l = []
  · subst h0
    go_enter Tryz.func50, Tryz.ntmps50
    go_wp2_with fail
    go_ret
    exact ⟨rfl, Below.refl _ _⟩
  · have HP := Lib.hid (hexB_P h0)
    have hp : 0 < l.length := List.length_pos_iff.mpr h0
    have hz : ((l.length : Int) == 0) = false := by
      rw [beq_eq_false_iff_ne]; omega
    clear h0
    go_enter Tryz.func50, Tryz.ntmps50
    go_wp2_with fail
    go_loop [3, 4] (fun sv i => ∃ k : Nat, k ≤ l.length ∧ i = .int .i64 (k : Nat) ∧ sv = strV (hexP (l.take k))) (fun _ i => (l.length - Go.RowKit.intOf i).toNat)
    case atStart => exact ⟨0, Nat.zero_le _, rfl, rfl⟩
    case round =>
      obtain ⟨k, hk, rfl, rfl⟩ := hrel
      by_cases hlt : k < l.length
      · obtain ⟨b, off, rfl, hb, hlay⟩ := H3.out (by omega)
        have x0 := (hlay.elem byC_len k hlt).by
        rw [Nat.mul_one] at x0
        have HT := Lib.hid (List.take_succ_eq_append_getElem hlt)
        have hpl := hexP_len (l.take k)
        have hkl := List.length_take_le k l
        obtain ⟨c, hc⟩ : ∃ c, c = l[k] := ⟨_, rfl⟩
        rw [← hc] at x0 HT
        have hcl := c.toNat_lt
        have HX := Lib.hid (fun w => rhexT_ok c.toNat w (by omega))
        have hcut := fun w => hex_cut c w
        obtain ⟨t, ht⟩ : ∃ t, t = hexT c.toNat := ⟨_, rfl⟩
        rw [← ht] at HX hcut
        obtain ⟨p, hpp⟩ : ∃ p, p = hexP (l.take k) := ⟨_, rfl⟩
        rw [← hpp] at hpl ⊢
        have HPP := Lib.hid hpp
        obtain ⟨d, hd⟩ : ∃ d, d = twoD c := ⟨_, rfl⟩
        rw [← hd] at hcut
        have HD := Lib.hid hd
        have hadd := fun w => str_add p d (by rw [hd]; simp [twoD]; omega) w
        clear hlay hc ht hpp hpl hkl hd
        go_wp2_with fail
        refine (HX.out _).mono ?_
        rintro e w2 ⟨rfl, rfl⟩
        go_wp2_with fail
        go_round
        case rel => exact ⟨k + 1, by omega, by go_num, by rw [HT.out, hexP_snoc, ← HPP.out, HD.out]⟩
        case measure => simp [Go.RowKit.intOf]; omega
      · obtain rfl : k = l.length := by omega
        rw [List.take_length]
        go_wp2_with fail
        go_ret
        exact ⟨by rw [HP.out]; try rfl, Below.refl _ _⟩
abbrev RLB (w wx : World) (r : HRw) : Prop := HBx 75 w wx w.heap.size r
theorem RLB.sl {w wx : World} {r : HRw} (h : RLB w wx r) (hs : Sl byC w w.heap.size (.slice r.A r.x.bs.length r.cap) r.x.bs) : Sl byC wx wx.heap.size (.slice r.A r.x.bs.length r.cap) r.x.bs := (hs.below h.bel).more h.bel.size
theorem RLB.to {w wx wy : World} {r : HRw} (h : RLB w wx r) (hb : Below wx.heap.size wx wy) : RLB w wy r := HBx.below h hb
theorem rline_h1 (r : HRw) (w : World) (hk : r.x.kind = 1) (hs : Sl byC w w.heap.size (.slice r.A r.x.bs.length r.cap) r.x.bs) (hl : r.x.bs.length ≤ 500) : Calls Tryz.prog 30 #[.agg (hiA r)] w (SPost w (itT r.x)) := by
  have h1' : RLB w _ r := HBx.new 75 w r
  obtain ⟨w1, hst1⟩ : ∃ w1, w.alloc (.cells (hiA r) 75) = w1 := ⟨_, rfl⟩
  rw [hst1] at h1'
  have f0 := h1'.kind
  have f1 := h1'.conn
  have f2 := h1'.bs
  rw [hk] at f0
  obtain ⟨a, ha⟩ : ∃ a, a = smallT r.x.conn := ⟨_, rfl⟩
  obtain ⟨h, hh⟩ : ∃ h, h = hexB r.x.bs := ⟨_, rfl⟩
  have la : a.length ≤ 20 := by rw [ha]; exact smallT_len _
  have lh : h.length ≤ 1001 := by rw [hh]; have := hexB_len r.x.bs; omega
  have HA := Lib.hid (fun w => rsmall_b r.x.conn w)
  rw [← ha] at HA
  have HH := Lib.hid (fun wx (hx : RLB w wx r) => rhex29_b r.x.bs _ wx (hx.sl hs) (by omega))
  rw [← hh] at HH
  obtain ⟨p1, g1⟩ : ∃ p, p = [102, 101, 101, 100, 32] ++ a := ⟨_, rfl⟩
  have e1 : ∀ w, (Op.stringOp .add ⟨#[102, 101, 101, 100, 32]⟩ ⟨a.toArray⟩).run Tryz.prog w = .ok (strV p1) w := fun w => by rw [g1]; exact str_add [102, 101, 101, 100, 32] a (by simp; omega) w
  obtain ⟨p2, g2⟩ : ∃ p, p = p1 ++ [32] := ⟨_, rfl⟩
  have e2 : ∀ w, (Op.stringOp .add ⟨p1.toArray⟩ ⟨#[32]⟩).run Tryz.prog w = .ok (strV p2) w := fun w => by rw [g2]; exact str_add p1 [32] (by simp [g1]; omega) w
  obtain ⟨p3, g3⟩ : ∃ p, p = p2 ++ h := ⟨_, rfl⟩
  have e3 : ∀ w, (Op.stringOp .add ⟨p2.toArray⟩ ⟨h.toArray⟩).run Tryz.prog w = .ok (strV p3) w := fun w => by rw [g3]; exact str_add p2 h (by simp [g1, g2]; omega) w
  have HT := Lib.hid (show itT r.x = p3 by unfold itT; rw [if_pos hk, g3, g2, g1, ha, hh]; simp [wFeed])
  have HSB := Lib.hid (fun wx (hx : RLB w wx r) => (⟨hx.conn, hx.bs⟩ : wx.cell? ⟨w.heap.size, 1, none⟩ = some (.int .i64 r.x.conn) ∧ wx.cell? ⟨w.heap.size, 2, none⟩ = some (.slice r.A r.x.bs.length r.cap)))
  have h1d : RLB w w1.drew r := h1'.drew
  clear g1 g2 g3 ha hh la lh hs hl hk
  go_enter Tryz.func30, Tryz.ntmps30
  go_wp2_with fail
  go_region_held3 (fun wx => wx.cell? ⟨w.heap.size, 1, none⟩ = some (.int .i64 r.x.conn) ∧ wx.cell? ⟨w.heap.size, 2, none⟩ = some (.slice r.A r.x.bs.length r.cap)) (first | go_keep | exact HSB.out _ (by assumption)) (first
    | ((with_reducible refine (HA.out _).mono ?_); rintro e wa ⟨rfl, hba⟩; have hxa := RLB.to (r := r) (w := w) (by assumption) hba; clear hba)
    | ((with_reducible refine (HH.out _ (by assumption)).mono ?_); rintro e wb ⟨rfl, hbb⟩; have hxb := RLB.to (r := r) (w := w) (by assumption) hbb; clear hbb))
  all_goals
    go_wp2_with fail
    go_ret
    exact ⟨by rw [HT.out]; try rfl, HBx.bel (T := 75) (g := w.heap.size) (r := r) (by assumption)⟩
theorem rline_h2 (r : HRw) (w : World) (hk : r.x.kind = 2) (hd : r.x.fits) : Calls Tryz.prog 30 #[.agg (hiA r)] w (SPost w (itT r.x)) := by
  have h1' : RLB w _ r := HBx.new 75 w r
  obtain ⟨w1, hst1⟩ : ∃ w1, w.alloc (.cells (hiA r) 75) = w1 := ⟨_, rfl⟩
  rw [hst1] at h1'
  have f0 := h1'.kind
  have f1 := h1'.conn
  have f3 := h1'.draw
  rw [hk] at f0
  obtain ⟨a, ha⟩ : ∃ a, a = smallT r.x.conn := ⟨_, rfl⟩
  obtain ⟨h, hh⟩ : ∃ h, h = hexT r.x.draw := ⟨_, rfl⟩
  have la : a.length ≤ 20 := by rw [ha]; exact smallT_len _
  have lh : h.length = 16 := by rw [hh]; exact hexF_len 16 _
  have HA := Lib.hid (fun w => rsmall_b r.x.conn w)
  rw [← ha] at HA
  have HH := Lib.hid (fun w => rhexT_b r.x.draw w hd)
  rw [← hh] at HH
  obtain ⟨p1, g1⟩ : ∃ p, p = [112, 105, 99, 107, 32] ++ a := ⟨_, rfl⟩
  have e1 : ∀ w, (Op.stringOp .add ⟨#[112, 105, 99, 107, 32]⟩ ⟨a.toArray⟩).run Tryz.prog w = .ok (strV p1) w := fun w => by rw [g1]; exact str_add [112, 105, 99, 107, 32] a (by simp; omega) w
  obtain ⟨p2, g2⟩ : ∃ p, p = p1 ++ [32] := ⟨_, rfl⟩
  have e2 : ∀ w, (Op.stringOp .add ⟨p1.toArray⟩ ⟨#[32]⟩).run Tryz.prog w = .ok (strV p2) w := fun w => by rw [g2]; exact str_add p1 [32] (by simp [g1]; omega) w
  obtain ⟨p3, g3⟩ : ∃ p, p = p2 ++ h := ⟨_, rfl⟩
  have e3 : ∀ w, (Op.stringOp .add ⟨p2.toArray⟩ ⟨h.toArray⟩).run Tryz.prog w = .ok (strV p3) w := fun w => by rw [g3]; exact str_add p2 h (by simp [g1, g2]; omega) w
  have HT := Lib.hid (show itT r.x = p3 by unfold itT; rw [if_neg (by rw [hk]; decide), if_pos hk, g3, g2, g1, ha, hh]; simp [wPick])
  have HSB := Lib.hid (fun wx (hx : RLB w wx r) => (⟨hx.conn, hx.draw⟩ : wx.cell? ⟨w.heap.size, 1, none⟩ = some (.int .i64 r.x.conn) ∧ wx.cell? ⟨w.heap.size, 3, none⟩ = some (.int .u64 (r.x.draw : Nat))))
  have h1d : RLB w w1.drew r := h1'.drew
  clear g1 g2 g3 ha hh la lh hd hk
  go_enter Tryz.func30, Tryz.ntmps30
  go_wp2_with fail
  go_region_held3 (fun wx => wx.cell? ⟨w.heap.size, 1, none⟩ = some (.int .i64 r.x.conn) ∧ wx.cell? ⟨w.heap.size, 3, none⟩ = some (.int .u64 (r.x.draw : Nat))) (first | go_keep | exact HSB.out _ (by assumption)) (first
    | ((with_reducible refine (HA.out _).mono ?_); rintro e wa ⟨rfl, hba⟩; have hxa := RLB.to (r := r) (w := w) (by assumption) hba; clear hba)
    | ((with_reducible refine (HH.out _).mono ?_); rintro e wb ⟨rfl, hbb⟩; have hxb := RLB.to (r := r) (w := w) (by assumption) hbb; clear hbb))
  all_goals
    go_wp2_with fail
    go_ret
    exact ⟨by rw [HT.out]; try rfl, HBx.bel (T := 75) (g := w.heap.size) (r := r) (by assumption)⟩
theorem rline_h3 (r : HRw) (w : World) (hk : r.x.kind = 3) : Calls Tryz.prog 30 #[.agg (hiA r)] w (SPost w (itT r.x)) := by
  have h1' : RLB w _ r := HBx.new 75 w r
  obtain ⟨w1, hst1⟩ : ∃ w1, w.alloc (.cells (hiA r) 75) = w1 := ⟨_, rfl⟩
  rw [hst1] at h1'
  have f0 := h1'.kind
  have f4 := h1'.n
  rw [hk] at f0
  obtain ⟨a, ha⟩ : ∃ a, a = smallT r.x.n := ⟨_, rfl⟩
  have la : a.length ≤ 20 := by rw [ha]; exact smallT_len _
  have HA := Lib.hid (fun w => rsmall_b r.x.n w)
  rw [← ha] at HA
  obtain ⟨p1, g1⟩ : ∃ p, p = [116, 105, 99, 107, 32] ++ a := ⟨_, rfl⟩
  have e1 : ∀ w, (Op.stringOp .add ⟨#[116, 105, 99, 107, 32]⟩ ⟨a.toArray⟩).run Tryz.prog w = .ok (strV p1) w := fun w => by rw [g1]; exact str_add [116, 105, 99, 107, 32] a (by simp; omega) w
  have HT := Lib.hid (show itT r.x = p1 by unfold itT; rw [if_neg (by rw [hk]; decide), if_neg (by rw [hk]; decide), if_pos hk, g1, ha]; simp [wTick])
  have H1 := Lib.hid h1'
  clear g1 ha la hk h1'
  go_enter Tryz.func30, Tryz.ntmps30
  go_wp2_with fail
  refine (HA.out _).mono ?_
  rintro e w2 ⟨rfl, hb⟩
  have H2 := Lib.hid (H1.out.to hb)
  clear hb
  go_wp2_with fail
  go_ret
  exact ⟨by rw [HT.out]; try rfl, H2.out.bel⟩
theorem rline_h4 (r : HRw) (w : World) (hk : r.x.kind = 4) (hq : r.x.q.fits) (he : encOk r.x.q = true) (hd : r.x.fits) : Calls Tryz.prog 30 #[.agg (hiA r)] w (SPost w (itT r.x)) := by
  have h1' : RLB w _ r := HBx.new 75 w r
  obtain ⟨w1, hst1⟩ : ∃ w1, w.alloc (.cells (hiA r) 75) = w1 := ⟨_, rfl⟩
  rw [hst1] at h1'
  have f0 := h1'.kind
  have f1 := h1'.conn
  have f3 := h1'.draw
  rw [hk] at f0
  obtain ⟨hop, ht⟩ := enc_op he
  obtain ⟨a, ha⟩ : ∃ a, a = smallT r.x.conn := ⟨_, rfl⟩
  obtain ⟨h, hh⟩ : ∃ h, h = hexT r.x.draw := ⟨_, rfl⟩
  obtain ⟨l, hl⟩ : ∃ l, l = rlineT r.x.q := ⟨_, rfl⟩
  have hlq : lineT r.x.q = l := by rw [hl, rline_eq r.x.q hop]; unfold lineT; rw [if_pos he]
  have la : a.length ≤ 20 := by rw [ha]; exact smallT_len _
  have lh : h.length = 16 := by rw [hh]; exact hexF_len 16 _
  have ll : l.length ≤ 20000 := by rw [hl, rline_eq r.x.q hop]; exact lineQ_len _ he
  have HA := Lib.hid (fun w => rsmall_b r.x.conn w)
  rw [← ha] at HA
  have HH := Lib.hid (fun w => rhexT_b r.x.draw w hd)
  rw [← hh] at HH
  have HL := Lib.hid (fun w => rline_ok r.x.q w hop hq ht)
  rw [← hl] at HL
  obtain ⟨p1, g1⟩ : ∃ p, p = [97, 115, 107, 32] ++ a := ⟨_, rfl⟩
  have e1 : ∀ w, (Op.stringOp .add ⟨#[97, 115, 107, 32]⟩ ⟨a.toArray⟩).run Tryz.prog w = .ok (strV p1) w := fun w => by rw [g1]; exact str_add [97, 115, 107, 32] a (by simp; omega) w
  obtain ⟨p2, g2⟩ : ∃ p, p = p1 ++ [32] := ⟨_, rfl⟩
  have e2 : ∀ w, (Op.stringOp .add ⟨p1.toArray⟩ ⟨#[32]⟩).run Tryz.prog w = .ok (strV p2) w := fun w => by rw [g2]; exact str_add p1 [32] (by simp [g1]; omega) w
  obtain ⟨p3, g3⟩ : ∃ p, p = p2 ++ h := ⟨_, rfl⟩
  have e3 : ∀ w, (Op.stringOp .add ⟨p2.toArray⟩ ⟨h.toArray⟩).run Tryz.prog w = .ok (strV p3) w := fun w => by rw [g3]; exact str_add p2 h (by simp [g1, g2]; omega) w
  obtain ⟨p4, g4⟩ : ∃ p, p = p3 ++ [32] := ⟨_, rfl⟩
  have e4 : ∀ w, (Op.stringOp .add ⟨p3.toArray⟩ ⟨#[32]⟩).run Tryz.prog w = .ok (strV p4) w := fun w => by rw [g4]; exact str_add p3 [32] (by simp [g1, g2, g3]; omega) w
  obtain ⟨p5, g5⟩ : ∃ p, p = p4 ++ l := ⟨_, rfl⟩
  have e5 : ∀ w, (Op.stringOp .add ⟨p4.toArray⟩ ⟨l.toArray⟩).run Tryz.prog w = .ok (strV p5) w := fun w => by rw [g5]; exact str_add p4 l (by simp [g1, g2, g3, g4]; omega) w
  have HT := Lib.hid (show itT r.x = p5 by unfold itT; rw [if_neg (by rw [hk]; decide), if_neg (by rw [hk]; decide), if_neg (by rw [hk]; decide), hlq, g5, g4, g3, g2, g1, ha, hh]; simp [wAsk])
  have HSB := Lib.hid (fun wx (hx : RLB w wx r) => (⟨hx.conn, hx.draw, loadReq_at hx.q⟩ : wx.cell? ⟨w.heap.size, 1, none⟩ = some (.int .i64 r.x.conn) ∧ wx.cell? ⟨w.heap.size, 3, none⟩ = some (.int .u64 (r.x.draw : Nat)) ∧ loadReq (.pointer (some ⟨w.heap.size, 5, none⟩)) wx = .ok (.value (.agg (rqC r.x.q))) wx))
  have h1d : RLB w w1.drew r := h1'.drew
  have hld := loadReq_at h1d.q
  clear g1 g2 g3 g4 g5 ha hh hl hlq la lh ll hd hk hq he hop ht
  go_enter Tryz.func30, Tryz.ntmps30
  go_wp2_with fail
  go_region_held3 (fun wx => wx.cell? ⟨w.heap.size, 1, none⟩ = some (.int .i64 r.x.conn) ∧ wx.cell? ⟨w.heap.size, 3, none⟩ = some (.int .u64 (r.x.draw : Nat)) ∧ loadReq (.pointer (some ⟨w.heap.size, 5, none⟩)) wx = .ok (.value (.agg (rqC r.x.q))) wx) (first | exact HSB.out _ (by assumption) | exact HSB.out _ (HBx.drew (by assumption)) | go_keep) (first
    | ((with_reducible refine (HA.out _).mono ?_); rintro e wa ⟨rfl, hba⟩; have hxa := RLB.to (r := r) (w := w) (by assumption) hba; have hla := loadReq_at hxa.q; clear hba)
    | ((with_reducible refine (HH.out _).mono ?_); rintro e wb ⟨rfl, hbb⟩; have hxb := RLB.to (r := r) (w := w) (by assumption) hbb; have hlb := loadReq_at hxb.q; clear hbb)
    | ((with_reducible refine (HL.out _).mono ?_); rintro e wc ⟨rfl, hbc⟩; have hxc := RLB.to (r := r) (w := w) (by assumption) hbc; have hlc := loadReq_at hxc.q; clear hbc))
  all_goals
    go_wp2_with fail
    go_ret
    exact ⟨by rw [HT.out]; try rfl, HBx.bel (T := 75) (g := w.heap.size) (r := r) (by assumption)⟩
theorem rline29_ok (r : HRw) (w : World) (h : HOk w r) (hi : itOk r.x = true) : Calls Tryz.prog 30 #[.agg (hiA r)] w (SPost w (itT r.x)) := by
  unfold itOk at hi
  by_cases h1 : r.x.kind = 1
  · rw [if_pos h1] at hi
    simp only [Bool.and_eq_true, decide_eq_true_eq] at hi
    exact rline_h1 r w h1 h.sl hi.2.1
  · rw [if_neg h1] at hi
    by_cases h2 : r.x.kind = 2
    · exact rline_h2 r w h2 h.dr
    · rw [if_neg h2] at hi
      by_cases h3 : r.x.kind = 3
      · exact rline_h3 r w h3
      · rw [if_neg h3] at hi
        by_cases h4 : r.x.kind = 4
        · rw [if_pos h4] at hi
          simp only [Bool.and_eq_true, decide_eq_true_eq] at hi
          exact rline_h4 r w h4 h.q hi.2.2.2 h.dr
        · rw [if_neg h4] at hi
          cases hi
end Go.Proofs.YtldjgpnbkbmgoaaGreatDoor

