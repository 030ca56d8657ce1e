/-
  Each operation of the evaluator is the model's: values and reads; new objects; what turns the heap; calls.
-/
import Derived.Test.YtmgpfkoomlgcoaaGreatEvH
namespace Go.Proofs.YtmgpfkoomlgcoaaGreat.Ev

theorem blt_t {a b : Nat} (h : Nat.blt a b = true) : a < b := Nat.le_of_ble_eq_true h

theorem run_v {P : Program} {w w' : World} {s : Sem Value} {x : Value} (h : s.run P w = .ok x w') : (do let r ← s; pure (Next.value r) : Sem Next).run P w = .ok (.value x) w' := by
  simp only [Sem.run_bind, h, Result.andThen_ok, Sem.run_pure]

section
variable {P : Program} {E : Env} (hE : EnvOk P E) {γ : Gam} {σ : AS} {w : World} {t : Tmps} {ρ : Operand → Value}
include hE

omit hE in
theorem optOp_ok (hρ : OpRel γ t ρ) {x : Option Operand} {v : Option AV} (h : optOp t x = some v) : OptRel γ v (x.map ρ) := by
  unfold optOp at h
  split at h
  · simp only [Option.some.injEq] at h; subst h; trivial
  · split at h
    · rename_i hx
      simp only [Option.some.injEq] at h; subst h
      exact hρ _ _ hx
    · cases h

omit hE in
theorem minmax_ok {f : Value → Value → Sem Value} {l : List AV} {u : AV} {xs : List Value} (h : minmax f l = some u) (hl : Concs γ l xs) :
    ∃ x rest y, xs = x :: rest ∧ (rest.foldlM f x).run P w = .ok y w ∧ Conc γ u y := by
  cases l with
  | nil => simp [minmax] at h
  | cons v l =>
    simp only [Concs] at hl
    obtain ⟨x, xs, rfl, hx, hl⟩ := hl
    obtain ⟨y, h1, h2⟩ := minmaxFrom_ok (P := P) (w := w) l v u x xs h hx hl
    exact ⟨x, xs, y, rfl, h1, h2⟩

theorem val_ok (hR : Rel γ σ w) (hρ : OpRel γ t ρ) (o : Oper) {out : Out} {v : AV} (h : evOp E t σ o.op = some out) (ho : out = .pure v ∨ out = .read v) :
    ∃ x, (execOp ρ o).run P w = .ok (.value x) w ∧ Conc γ v x := by
  obtain ⟨dst, op, type, pos, after, guard⟩ := o
  simp only [] at h
  cases op <;> simp only [evOp] at h
  case move x =>
    obtain ⟨u, hu, rfl⟩ := Option.map_eq_some_iff.1 h
    rcases ho with e | e <;> cases e
    exact ⟨ρ x, rfl, hρ _ _ hu⟩
  case assign x =>
    obtain ⟨u, hu, rfl⟩ := Option.map_eq_some_iff.1 h
    rcases ho with e | e <;> cases e
  case pick c a b =>
    simp only [execOp]
    split at h
    · rename_i hc
      obtain ⟨u, hu, rfl⟩ := Option.map_eq_some_iff.1 h
      rcases ho with e | e <;> cases e
      have := hρ _ _ hc
      rw [conc_lit_iff] at this
      refine ⟨ρ a, ?_, hρ _ _ hu⟩
      rw [this]
      rfl
    · rename_i hc
      obtain ⟨u, hu, rfl⟩ := Option.map_eq_some_iff.1 h
      rcases ho with e | e <;> cases e
      have := hρ _ _ hc
      rw [conc_lit_iff] at this
      refine ⟨ρ b, ?_, hρ _ _ hu⟩
      rw [this]
      rfl
    · cases h
  case alloc elem =>
    split at h
    · obtain ⟨u, hu, rfl⟩ := Option.map_eq_some_iff.1 h
      rcases ho with e | e <;> cases e
    · cases h
  case box elem x =>
    obtain ⟨u, hu, rfl⟩ := Option.map_eq_some_iff.1 h
    rcases ho with e | e <;> cases e
  case build ty parts =>
    simp only [execOp]
    split at h
    · rename_i r vs hr hvs
      have hc := concs_allSome hρ hvs
      split at h
      · rename_i z hz
        rw [List.map_map] at hc
        have hb := fun v h => build_ok (v := v) hE (w := w) (is := []) (os := []) (ρ := ρ) (parts := parts) hr hz hc h
        obtain ⟨x, hx⟩ : ∃ u, (match r.und with
            | .struct fs => match places E fs.toList with
              | some ps => (fillA (ps[·]?) (ofValue z).cells ((parts.toList.map (·.1)).zip vs)).map fun l => AV.agg l
              | none => none
            | .array _ elem => match E.ty elem with
              | some er => (fillA (fun i => some (i * er.info.size, er.info.size)) (ofValue z).cells ((parts.toList.map (·.1)).zip vs)).map fun l => AV.agg l
              | none => none
            | _ => none) = some u ∧ out = .pure u := by
          split at h
          · rename_i hd
            split at h
            · rename_i hp
              obtain ⟨l, hl, rfl⟩ := Option.map_eq_some_iff.1 h
              exact ⟨.agg l, by simp only [hd, hp, hl, Option.map_some], rfl⟩
            · cases h
          · rename_i hd
            split at h
            · rename_i hp
              obtain ⟨l, hl, rfl⟩ := Option.map_eq_some_iff.1 h
              exact ⟨.agg l, by simp only [hd, hp, hl, Option.map_some], rfl⟩
            · cases h
          · cases h
        obtain ⟨hx, rfl⟩ := hx
        rcases ho with e | e <;> cases e
        obtain ⟨y, h1, h2⟩ := hb _ hx
        exact ⟨y, run_v h1, h2⟩
      · cases h
    · cases h
  case buildSlice ty len parts =>
    split at h
    · split at h
      · split at h
        · split at h
          · split at h
            · obtain ⟨u, hu, rfl⟩ := Option.map_eq_some_iff.1 h
              rcases ho with e | e <;> cases e
            · cases h
          · cases h
        · cases h
      · cases h
    · cases h
  case load ty a =>
    simp only [execOp]
    split at h
    · rename_i o off ha
      obtain ⟨u, hu, rfl⟩ := Option.map_eq_some_iff.1 h
      rcases ho with e | e <;> cases e
      have hc := hρ _ _ ha
      simp only [Conc] at hc
      obtain ⟨ad, had, hat⟩ := hc
      obtain ⟨x, h1, h2⟩ := load_ok hE hR hu hat
      refine ⟨x, run_v ?_, h2⟩
      rw [had]
      simp only [Instr.loadAt, Instr.sureAddr, Sem.run_bind, Sem.run_pure, Result.andThen_ok, h1]
    · cases h
  case store ty a x =>
    split at h
    · obtain ⟨u, hu, rfl⟩ := Option.map_eq_some_iff.1 h
      rcases ho with e | e <;> cases e
    · cases h
  case nilCheck x =>
    simp only [execOp]
    split at h
    · rename_i o off hx
      simp only [Option.some.injEq] at h; subst h
      rcases ho with e | e <;> cases e
      have hc := hρ _ _ hx
      have hc' := hc
      simp only [Conc] at hc
      obtain ⟨ad, had, _⟩ := hc
      refine ⟨ρ x, ?_, hc'⟩
      rw [had]; rfl
    · rename_i f a b hx
      simp only [Option.some.injEq] at h; subst h
      rcases ho with e | e <;> cases e
      have hc := hρ _ _ hx
      have hc' := hc
      rw [conc_lit_iff] at hc
      refine ⟨ρ x, ?_, hc'⟩
      rw [hc]; rfl
    · rename_i f a b hx
      simp only [Option.some.injEq] at h; subst h
      rcases ho with e | e <;> cases e
      have hc := hρ _ _ hx
      have hc' := hc
      simp only [Conc] at hc
      obtain ⟨a', b', had, _⟩ := hc
      refine ⟨ρ x, ?_, hc'⟩
      rw [had]; rfl
    · rename_i ty u hx
      simp only [Option.some.injEq] at h; subst h
      rcases ho with e | e <;> cases e
      have hc := hρ _ _ hx
      have hc' := hc
      simp only [Conc] at hc
      obtain ⟨y, had, _⟩ := hc
      refine ⟨ρ x, ?_, hc'⟩
      rw [had]; rfl
    · cases h
  case binOp op ty x y yt =>
    simp only [execOp]
    split at h
    · rename_i a b ha hb
      obtain ⟨u, hu, rfl⟩ := Option.map_eq_some_iff.1 h
      rcases ho with e | e <;> cases e
      obtain ⟨z, h1, h2⟩ := binA_ok hE (w := w) (ox := x) (oy := y) hu (hρ _ _ ha) (hρ _ _ hb)
      exact ⟨z, run_v h1, h2⟩
    · cases h
  case unOp op ty x =>
    simp only [execOp]
    split at h
    · rename_i a ha
      obtain ⟨u, hu, rfl⟩ := Option.map_eq_some_iff.1 h
      rcases ho with e | e <;> cases e
      obtain ⟨z, h1, h2⟩ := unA_ok (P := P) (w := w) hu (hρ _ _ ha)
      exact ⟨z, run_v h1, h2⟩
    · cases h
  case convert src dst x =>
    simp only [execOp]
    split at h
    · rename_i a ha
      obtain ⟨z, h1, h2⟩ := conv_ok hE hR (v := v) (ho.imp (fun e => e ▸ h) (fun e => e ▸ h)) (hρ _ _ ha)
      exact ⟨z, run_v h1, h2⟩
    · cases h
  case makeInterface ty x =>
    simp only [execOp]
    split at h
    · rename_i r u hr hu
      split at h
      · cases h
      · rename_i hd
        simp only [Option.some.injEq] at h; subst h
        rcases ho with e | e <;> cases e
        refine ⟨.iface ty (ρ x), run_v ?_, by simp only [Conc]; exact ⟨_, rfl, hρ _ _ hu⟩⟩
        unfold Instr.makeInterface
        simp only [Sem.run_bind, run_und hE hr w, Result.andThen_ok]
        rfl
    · cases h
  case makeFunc fn first captured =>
    simp only [execOp]
    split at h
    · rename_i a b ha hb
      simp only [Option.some.injEq] at h; subst h
      rcases ho with e | e <;> cases e
      have h1 := concs_allSome hρ ha
      have h2 := concs_allSome hρ hb
      refine ⟨_, run_v rfl, ?_⟩
      simp only [Conc]
      exact ⟨_, _, rfl, by simpa using h1, by simpa using h2⟩
    · cases h
  case makeMap ty r =>
    cases r with
    | none =>
      simp only [Option.some.injEq] at h; subst h
      rcases ho with e | e <;> cases e
    | some _ => cases h
  case makeSlice ty l c =>
    split at h
    · split at h
      · split at h
        · split at h
          · split at h
            · simp only [Option.some.injEq] at h; subst h
              rcases ho with e | e <;> cases e
            · cases h
          · cases h
        · cases h
      · cases h
    · cases h
  case slice ty x lo hi mx =>
    simp only [execOp]
    split at h
    · rename_i a lo' hi' mx' ha hlo hhi hmx
      obtain ⟨u, hu, rfl⟩ := Option.map_eq_some_iff.1 h
      rcases ho with e | e <;> cases e
      obtain ⟨z, h1, h2⟩ := slice_ok hE (w := w) hu (hρ _ _ ha) (optOp_ok hρ hlo) (optOp_ok hρ hhi) (optOp_ok hρ hmx)
      exact ⟨z, run_v h1, h2⟩
    · cases h
  case fieldAddr ty x f =>
    simp only [execOp]
    split at h
    · rename_i r o off hr hx
      split at h
      · rename_i fs hd
        split at h
        · rename_i fd hfd
          split at h
          · rename_i fr hfr
            split at h
            · rename_i hz
              simp only [Option.some.injEq] at h; subst h
              rcases ho with e | e <;> cases e
              have hc := hρ _ _ hx
              simp only [Conc] at hc
              obtain ⟨a, had, hat⟩ := hc
              have hz := Nat.ne_of_beq_eq_false hz
              refine ⟨.pointer (some (a.add fd.offset)), run_v ?_, ?_⟩
              · rw [had]
                unfold Instr.fieldAt fieldPlace
                simp only [Sem.run_bind, run_und hE hr w, Result.andThen_ok, hd, hfd, Instr.sureAddr, Sem.run_pure, run_size hE hfr w, if_neg hz]
              · simp only [Conc]
                refine ⟨_, rfl, ?_⟩
                unfold atP at hat ⊢
                cases hg : γ o with
                | none => rw [hg] at hat; exact hat.elim
                | some q =>
                  rw [hg] at hat
                  cases q with
                  | none => trivial
                  | some p => simp only [] at hat ⊢; rw [hat, addr_add, Nat.add_assoc]
            · cases h
          · cases h
        · cases h
      · cases h
    · cases h
  case field ty x f =>
    simp only [execOp]
    split at h
    · rename_i r cs hr hx
      split at h
      · rename_i fs hd
        split at h
        · rename_i fd hfd
          obtain ⟨u, hu, rfl⟩ := Option.map_eq_some_iff.1 h
          rcases ho with e | e <;> cases e
          have hc := hρ _ _ hx
          simp only [Conc] at hc
          obtain ⟨a, had, hat⟩ := hc
          obtain ⟨z, h1, h2⟩ := part_ok hE (w := w) hu hat
          refine ⟨z, run_v ?_, h2⟩
          rw [had]
          unfold Instr.field
          simp only [Sem.run_bind, run_und hE hr w, Result.andThen_ok, hd, hfd, asAgg, Sem.run_pure, h1]
        · cases h
      · cases h
    · cases h
  case indexAddr ty x i =>
    simp only [execOp]
    have hatp : ∀ {o off s : Nat} {a : Addr} {l : Nat}, atP γ o off a → atP γ o (off + l * s) (a.add (l * s)) := by
      intro o off s a l ha
      unfold atP at ha ⊢
      cases hg : γ o with
      | none => rw [hg] at ha; exact ha.elim
      | some q =>
        rw [hg] at ha
        cases q with
        | none => trivial
        | some p => simp only [] at ha ⊢; rw [ha, addr_add, Nat.add_assoc]
    split at h
    · rename_i r xv iv hr hx hi
      split at h
      · rename_i len elem o off i' hd hn
        split at h
        · rename_i er her hlt
          simp only [Option.some.injEq] at h; subst h
          rcases ho with e | e <;> cases e
          have hlt := blt_t hlt
          obtain ⟨k, hk⟩ := natOf_some hn (hρ _ _ hi)
          have hc := hρ _ _ hx
          simp only [Conc] at hc
          obtain ⟨a, had, hat⟩ := hc
          refine ⟨.pointer (some (a.add (i' * er.info.size))), run_v ?_, by simp only [Conc]; exact ⟨_, rfl, hatp hat⟩⟩
          rw [had, hk]
          unfold Instr.indexAt
          have hin : (0 ≤ (i' : Int) ∧ (i' : Int) < (len : Int)) := ⟨by omega, by omega⟩
          simp only [asIntOf, Instr.sureAddr, Sem.run_bind, run_und hE hr w, Result.andThen_ok, hd, Sem.run_pure, hin, and_self, if_true, run_size hE her w, Int.toNat_natCast]
        · cases h
      · rename_i elem o off len cap i' hd hn
        split at h
        · rename_i er her hlt
          simp only [Option.some.injEq] at h; subst h
          rcases ho with e | e <;> cases e
          have hlt := blt_t hlt
          obtain ⟨k, hk⟩ := natOf_some hn (hρ _ _ hi)
          have hc := hρ _ _ hx
          simp only [Conc] at hc
          obtain ⟨a, c, had, hat, hlc, _⟩ := hc
          have hat := hat.resolve_left (by omega)
          refine ⟨.pointer (some (a.add (i' * er.info.size))), run_v ?_, by simp only [Conc]; exact ⟨_, rfl, hatp hat⟩⟩
          rw [had, hk]
          unfold Instr.indexAt
          have hin : (0 ≤ (i' : Int) ∧ (i' : Int) < (len : Int)) := ⟨by omega, by omega⟩
          simp only [asIntOf, Sem.run_bind, run_und hE hr w, Result.andThen_ok, hd, Sem.run_pure, hin, and_self, if_true, run_size hE her w, Int.toNat_natCast]
        · cases h
      · cases h
    · cases h
  case index ty x i =>
    simp only [execOp]
    split at h
    · rename_i r xv iv hr hx hi
      split at h
      · rename_i len elem cs i' hd hn
        split at h
        · rename_i er her hlt
          obtain ⟨u, hu, rfl⟩ := Option.map_eq_some_iff.1 h
          rcases ho with e | e <;> cases e
          have hlt := blt_t hlt
          obtain ⟨k, hk⟩ := natOf_some hn (hρ _ _ hi)
          have hc := hρ _ _ hx
          simp only [Conc] at hc
          obtain ⟨a, had, hat⟩ := hc
          obtain ⟨z, h1, h2⟩ := part_ok hE (w := w) hu hat
          refine ⟨z, run_v ?_, h2⟩
          rw [had, hk]
          unfold Instr.index
          have hin : (0 ≤ (i' : Int) ∧ (i' : Int) < (len : Int)) := ⟨by omega, by omega⟩
          simp only [asIntOf, Sem.run_bind, run_und hE hr w, Result.andThen_ok, hd, Sem.run_pure, hin, and_self, if_true, run_size hE her w, Int.toNat_natCast, h1]
        · cases h
      · rename_i s i' hd hn
        split at h
        · rename_i b hb
          simp only [Option.some.injEq] at h; subst h
          rcases ho with e | e <;> cases e
          obtain ⟨k, hk⟩ := natOf_some hn (hρ _ _ hi)
          have hc := hρ _ _ hx
          rw [conc_lit_iff] at hc
          refine ⟨.int .u8 b.toNat, run_v ?_, conc_lit γ _⟩
          rw [hc, hk]
          unfold Instr.index
          have hb' : s[i']? = some b := by
            have hlt : i' < s.data.toList.length := (List.getElem?_eq_some_iff.1 hb).1
            have hlt' : i' < s.size := by simpa using hlt
            have : s.data.toList[i'] = b := (List.getElem?_eq_some_iff.1 hb).2
            rw [getElem?_pos s i' hlt']
            rw [← this]
            rfl
          have hin : (0 ≤ (i' : Int)) := by omega
          simp only [asIntOf, Sem.run_bind, run_und hE hr w, Result.andThen_ok, hd, Sem.run_pure, hin, if_true, Int.toNat_natCast, hb']
        · cases h
      · cases h
    · cases h
  case lookup ty x k ok =>
    simp only [execOp]
    split at h
    · rename_i a b ha hb
      obtain ⟨u, hu, rfl⟩ := Option.map_eq_some_iff.1 h
      rcases ho with e | e <;> cases e
      obtain ⟨z, h1, h2⟩ := lookup_ok hE hR hu (hρ _ _ ha) (hρ _ _ hb)
      exact ⟨z, run_v h1, h2⟩
    · cases h
  case mapUpdate ty m k x =>
    split at h
    · obtain ⟨u, hu, rfl⟩ := Option.map_eq_some_iff.1 h
      rcases ho with e | e <;> cases e
    · cases h
  case insert ty m k x =>
    split at h
    · obtain ⟨u, hu, rfl⟩ := Option.map_eq_some_iff.1 h
      rcases ho with e | e <;> cases e
    · cases h
  case range ty x =>
    split at h
    · split at h
      · split at h
        · simp only [Option.some.injEq] at h; subst h
          rcases ho with e | e <;> cases e
        · cases h
      · cases h
    · cases h
  case next it isString =>
    split at h
    · obtain ⟨u, hu, rfl⟩ := Option.map_eq_some_iff.1 h
      rcases ho with e | e <;> cases e
    · cases h
  case entry it =>
    simp only [execOp]
    split at h
    · rename_i a ha
      obtain ⟨u, hu, rfl⟩ := Option.map_eq_some_iff.1 h
      rcases ho with e | e <;> cases e
      obtain ⟨z, h1, h2⟩ := entry_ok (P := P) hR hu (hρ _ _ ha)
      exact ⟨z, run_v h1, h2⟩
    · cases h
  case typeAssert x xt asserted ok =>
    simp only [execOp]
    split at h
    · rename_i r ty u hr hx
      split at h
      · cases h
      · rename_i hty hd
        simp only [Option.some.injEq] at h; subst h
        rcases ho with e | e <;> cases e
        have hc := hρ _ _ hx
        simp only [Conc] at hc
        obtain ⟨y, had, hy⟩ := hc
        have hty := Nat.eq_of_beq_eq_true hty
        subst hty
        have hrun : (Instr.typeAssert (ρ x) xt ty ok).run P w = .ok (if ok then .tuple #[y, .bool true] else y) w := by
          rw [had]
          unfold Instr.typeAssert
          simp only [Sem.run_bind, run_und hE hr w, Result.andThen_ok]
          simp
        refine ⟨_, run_v hrun, ?_⟩
        cases ok with
        | true =>
          simp only [Conc, if_true]
          exact ⟨_, rfl, by simp only [Concs]; exact ⟨y, [.bool true], rfl, hy, .bool true, [], rfl, conc_lit γ _, rfl⟩⟩
        | false => exact hy
      · cases h
    · cases h
  case extract x i =>
    simp only [execOp]
    split at h
    · rename_i vs hx
      obtain ⟨u, hu, rfl⟩ := Option.map_eq_some_iff.1 h
      rcases ho with e | e <;> cases e
      have hc := hρ _ _ hx
      simp only [Conc] at hc
      obtain ⟨a, had, hat⟩ := hc
      obtain ⟨y, hy, hcy⟩ := concs_get hat i v hu
      refine ⟨y, run_v ?_, hcy⟩
      rw [had]
      have : a[i]? = some y := by simpa using hy
      simp only [Instr.extract, this, Sem.run_pure]
    · rename_i vs hx
      obtain ⟨u, hu, rfl⟩ := Option.map_eq_some_iff.1 h
      rcases ho with e | e <;> cases e
      have hc := hρ _ _ hx
      rw [conc_lit_iff] at hc
      refine ⟨u, run_v ?_, conc_lit γ u⟩
      rw [hc]
      simp only [Instr.extract, hu, Sem.run_pure]
    · cases h
  case call c =>
    split at h
    · cases h
    · rename_i args hargs
      have hc := concs_allSome hρ hargs
      have hnc : ∀ f, fnCall f args = some out → False := by
        intro f hf
        unfold fnCall at hf
        split at hf
        · simp only [Option.some.injEq] at hf; subst hf
          rcases ho with e | e <;> cases e
        · simp only [Option.some.injEq] at hf; subst hf
          rcases ho with e | e <;> cases e
        · cases hf
      split at h
      · split at h
        · exact (hnc _ h).elim
        · cases h
      · rename_i b hcal
        simp only [execOp, resolve, hcal, invoke, builtin]
        unfold builtinA at h
        split at h
        · rename_i ty _ x _
          obtain ⟨u, hu, rfl⟩ := Option.map_eq_some_iff.1 h
          rcases ho with e | e <;> cases e
          rename_i hts
          simp only [Concs] at hc
          obtain ⟨y, ys, hys, hy, _⟩ := hc
          obtain ⟨z, h1, h2⟩ := len_ok hE hR hu hy (ts := c.argTypes) (ty := type) (ys := c.args.map ρ) (by rw [← Array.getElem?_toList, hts]; rfl) (by rw [← Array.getElem?_toList, Array.toList_map, hys]; rfl)
          refine ⟨z, ?_, h2⟩
          simp only [Sem.run_bind, Sem.run_pure, Result.andThen_ok, builtin]
          simp only [h1, Result.andThen_ok]
        · split at h
          · split at h
            · split at h
              · cases h
              · obtain ⟨u, hu, rfl⟩ := Option.map_eq_some_iff.1 h
                rcases ho with e | e <;> cases e
            · cases h
          · cases h
        · obtain ⟨u, hu, rfl⟩ := Option.map_eq_some_iff.1 h
          rcases ho with e | e <;> cases e
        · obtain ⟨u, hu, rfl⟩ := Option.map_eq_some_iff.1 h
          rcases ho with e | e <;> cases e
        · obtain ⟨u, hu, rfl⟩ := Option.map_eq_some_iff.1 h
          rcases ho with e | e <;> cases e
          obtain ⟨x, rest, z, hxs, h1, h2⟩ := minmax_ok (P := P) (w := w) hu hc
          refine ⟨z, ?_, h2⟩
          simp only [Sem.run_bind, Sem.run_pure, Result.andThen_ok, builtin, Builtin.min_, Array.toList_map, hxs]
          simp only [h1, Result.andThen_ok]
        · obtain ⟨u, hu, rfl⟩ := Option.map_eq_some_iff.1 h
          rcases ho with e | e <;> cases e
          obtain ⟨x, rest, z, hxs, h1, h2⟩ := minmax_ok (P := P) (w := w) hu hc
          refine ⟨z, ?_, h2⟩
          simp only [Sem.run_bind, Sem.run_pure, Result.andThen_ok, builtin, Builtin.max_, Array.toList_map, hxs]
          simp only [h1, Result.andThen_ok]
        · cases h
      · split at h
        · split at h
          · split at h
            · split at h
              · simp only [Option.some.injEq] at h; subst h
                rcases ho with e | e <;> cases e
              · cases h
            · cases h
          · cases h
        · cases h
  all_goals cases h

end
end Go.Proofs.YtmgpfkoomlgcoaaGreat.Ev
