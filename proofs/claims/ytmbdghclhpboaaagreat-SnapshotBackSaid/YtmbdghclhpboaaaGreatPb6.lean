/- Part of the proof: EvI EvJ. Conditions: as each states. -/
import Derived.Test.YtmbdghclhpboaaaGreatPb5
set_option linter.all false
namespace Go.Proofs.YtmbdghclhpboaaaGreat.Ev
theorem blt_t{a b:Nat}(h:Nat.blt a b=true):a<b:=Nat.le_of_ble_eq_true h
theorem run_v{P:Program}{w w':World}{s:Sem Value}{x:Value}(h:s.run P w=.ok x w'):(do let r ←s;pure (Next.value r):Sem Next).run P w=.ok (.value x) w':=by
 simp only[Sem.run_bind,h,Result.andThen_ok,Sem.run_pure]
section
variable{P:Program}{E:Env}(hE:EnvOk P E){γ:Gam}{σ:AS}{w:World}{t:Tmps}{ρ:Operand→Value}
include hE
omit hE in
theorem optOp_ok(hρ:OpRel γ t ρ){x:Option Operand}{v:Option AV}(h:optOp t x=some v):OptRel γ v (x.map ρ):=by
 unfold optOp at h
 split at h
 ·simp only[Option.some.injEq] at h;subst h;trivial
 ·split at h
  ·rename_i hx
   simp only[Option.some.injEq] at h;subst h
   exact hρ _ _ hx
  ·cases h
omit hE in
theorem minmax_ok{f:Value→Value→Sem Value}{l:List AV}{u:AV}{xs:List Value}(h:minmax f l=some u)(hl:Concs γ l xs) :
  ∃x rest y,xs=x::rest∧(rest.foldlM f x).run P w=.ok y w∧Conc γ u y:=by
 cases l with
 | nil=>simp[minmax] at h
 | cons v l=>
   simp only[Concs] at hl
   obtain ⟨x,xs,rfl,hx,hl⟩:=hl
   obtain ⟨y,h1,h2⟩:=minmaxFrom_ok (P:=P) (w:=w) l v u x xs h hx hl
   exact ⟨x,xs,y,rfl,h1,h2⟩
theorem val_ok(hR:Rel γ σ w)(hρ:OpRel γ t ρ)(o:Oper){out:Out}{v:AV}(h:evOp E t σ o.op=some out)(ho:out=.pure v∨out=.read v) :
  ∃x,(execOp ρ o).run P w=.ok (.value x) w∧Conc γ v x:=by
 obtain ⟨dst,op,type,pos,after,guard⟩:=o
 simp only[] at h
 cases op<;>simp only[evOp] at h
 case move x=>
  obtain ⟨u,hu,rfl⟩:=Option.map_eq_some_iff.1 h
  rcases ho with e|e<;>cases e
  exact ⟨ρ x,rfl,hρ _ _ hu⟩
 case assign x=>
  obtain ⟨u,hu,rfl⟩:=Option.map_eq_some_iff.1 h
  rcases ho with e|e<;>cases e
 case pick c a b=>
  simp only[execOp]
  split at h
  ·rename_i hc
   obtain ⟨u,hu,rfl⟩:=Option.map_eq_some_iff.1 h
   rcases ho with e|e<;>cases e
   have:=hρ _ _ hc
   rw[conc_lit_iff] at this
   refine ⟨ρ a,?_,hρ _ _ hu⟩
   rw[this]
   rfl
  ·rename_i hc
   obtain ⟨u,hu,rfl⟩:=Option.map_eq_some_iff.1 h
   rcases ho with e|e<;>cases e
   have:=hρ _ _ hc
   rw[conc_lit_iff] at this
   refine ⟨ρ b,?_,hρ _ _ hu⟩
   rw[this]
   rfl
  ·cases h
 case alloc elem=>
  split at h
  ·obtain ⟨u,hu,rfl⟩:=Option.map_eq_some_iff.1 h
   rcases ho with e|e<;>cases e
  ·cases h
 case box elem x=>
  obtain ⟨u,hu,rfl⟩:=Option.map_eq_some_iff.1 h
  rcases ho with e|e<;>cases e
 case build ty parts=>
  simp only[execOp]
  split at h
  ·rename_i r vs hr hvs
   have hc:=concs_allSome hρ hvs
   split at h
   ·rename_i z hz
    rw[List.map_map] at hc
    have hb:=fun v h=>build_ok (v:=v) hE (w:=w) (is:=[]) (os:=[]) (ρ:=ρ) (parts:=parts) hr hz hc h
    obtain ⟨x,hx⟩:∃u,(match r.und with
      | .struct fs=>match places E fs.toList with
        | some ps=>(fillA (ps[·]?) (ofValue z).cells ((parts.toList.map (·.1)).zip vs)).map fun l=>AV.agg l
        | none=>none
      | .array _ elem=>match E.ty elem with
        | some er=>(fillA (fun i=>some (i * er.info.size,er.info.size)) (ofValue z).cells ((parts.toList.map (·.1)).zip vs)).map fun l=>AV.agg l
        | none=>none
      | _=>none)=some u∧out=.pure u:=by
     split at h
     ·rename_i hd
      split at h
      ·rename_i hp
       obtain ⟨l,hl,rfl⟩:=Option.map_eq_some_iff.1 h
       exact ⟨.agg l,by simp only[hd,hp,hl,Option.map_some],rfl⟩
      ·cases h
     ·rename_i hd
      split at h
      ·rename_i hp
       obtain ⟨l,hl,rfl⟩:=Option.map_eq_some_iff.1 h
       exact ⟨.agg l,by simp only[hd,hp,hl,Option.map_some],rfl⟩
      ·cases h
     ·cases h
    obtain ⟨hx,rfl⟩:=hx
    rcases ho with e|e<;>cases e
    obtain ⟨y,h1,h2⟩:=hb _ hx
    exact ⟨y,run_v h1,h2⟩
   ·cases h
  ·cases h
 case buildSlice ty len parts=>
  split at h
  ·split at h
   ·split at h
    ·split at h
     ·split at h
      ·obtain ⟨u,hu,rfl⟩:=Option.map_eq_some_iff.1 h
       rcases ho with e|e<;>cases e
      ·cases h
     ·cases h
    ·cases h
   ·cases h
  ·cases h
 case load ty a=>
  simp only[execOp]
  split at h
  ·rename_i o off ha
   obtain ⟨u,hu,rfl⟩:=Option.map_eq_some_iff.1 h
   rcases ho with e|e<;>cases e
   have hc:=hρ _ _ ha
   simp only[Conc] at hc
   obtain ⟨ad,had,hat⟩:=hc
   obtain ⟨x,h1,h2⟩:=load_ok hE hR hu hat
   refine ⟨x,run_v ?_,h2⟩
   rw[had]
   simp only[Instr.loadAt,Instr.sureAddr,Sem.run_bind,Sem.run_pure,Result.andThen_ok,h1]
  ·cases h
 case store ty a x=>
  split at h
  ·obtain ⟨u,hu,rfl⟩:=Option.map_eq_some_iff.1 h
   rcases ho with e|e<;>cases e
  ·cases h
 case nilCheck x=>
  simp only[execOp]
  split at h
  ·rename_i o off hx
   simp only[Option.some.injEq] at h;subst h
   rcases ho with e|e<;>cases e
   have hc:=hρ _ _ hx
   have hc':=hc
   simp only[Conc] at hc
   obtain ⟨ad,had,_⟩:=hc
   refine ⟨ρ x,?_,hc'⟩
   rw[had];rfl
  ·rename_i f a b hx
   simp only[Option.some.injEq] at h;subst h
   rcases ho with e|e<;>cases e
   have hc:=hρ _ _ hx
   have hc':=hc
   rw[conc_lit_iff] at hc
   refine ⟨ρ x,?_,hc'⟩
   rw[hc];rfl
  ·rename_i f a b hx
   simp only[Option.some.injEq] at h;subst h
   rcases ho with e|e<;>cases e
   have hc:=hρ _ _ hx
   have hc':=hc
   simp only[Conc] at hc
   obtain ⟨a',b',had,_⟩:=hc
   refine ⟨ρ x,?_,hc'⟩
   rw[had];rfl
  ·rename_i ty u hx
   simp only[Option.some.injEq] at h;subst h
   rcases ho with e|e<;>cases e
   have hc:=hρ _ _ hx
   have hc':=hc
   simp only[Conc] at hc
   obtain ⟨y,had,_⟩:=hc
   refine ⟨ρ x,?_,hc'⟩
   rw[had];rfl
  ·cases h
 case binOp op ty x y yt=>
  simp only[execOp]
  split at h
  ·rename_i a b ha hb
   obtain ⟨u,hu,rfl⟩:=Option.map_eq_some_iff.1 h
   rcases ho with e|e<;>cases e
   obtain ⟨z,h1,h2⟩:=binA_ok hE (w:=w) (ox:=x) (oy:=y) hu (hρ _ _ ha) (hρ _ _ hb)
   exact ⟨z,run_v h1,h2⟩
  ·cases h
 case unOp op ty x=>
  simp only[execOp]
  split at h
  ·rename_i a ha
   obtain ⟨u,hu,rfl⟩:=Option.map_eq_some_iff.1 h
   rcases ho with e|e<;>cases e
   obtain ⟨z,h1,h2⟩:=unA_ok (P:=P) (w:=w) hu (hρ _ _ ha)
   exact ⟨z,run_v h1,h2⟩
  ·cases h
 case convert src dst x=>
  simp only[execOp]
  split at h
  ·rename_i a ha
   obtain ⟨z,h1,h2⟩:=conv_ok hE hR (v:=v) (ho.imp (fun e=>e ▸ h) (fun e=>e ▸ h)) (hρ _ _ ha)
   exact ⟨z,run_v h1,h2⟩
  ·cases h
 case makeInterface ty x=>
  simp only[execOp]
  split at h
  ·rename_i r u hr hu
   split at h
   ·cases h
   ·rename_i hd
    simp only[Option.some.injEq] at h;subst h
    rcases ho with e|e<;>cases e
    refine ⟨.iface ty (ρ x),run_v ?_,by simp only[Conc];exact ⟨_,rfl,hρ _ _ hu⟩⟩
    unfold Instr.makeInterface
    simp only[Sem.run_bind,run_und hE hr w,Result.andThen_ok]
    rfl
  ·cases h
 case makeFunc fn first captured=>
  simp only[execOp]
  split at h
  ·rename_i a b ha hb
   simp only[Option.some.injEq] at h;subst h
   rcases ho with e|e<;>cases e
   have h1:=concs_allSome hρ ha
   have h2:=concs_allSome hρ hb
   refine ⟨_,run_v rfl,?_⟩
   simp only[Conc]
   exact ⟨_,_,rfl,by simpa using h1,by simpa using h2⟩
  ·cases h
 case makeMap ty r=>
  cases r with
  | none=>
    simp only[Option.some.injEq] at h;subst h
    rcases ho with e|e<;>cases e
  | some _=>cases h
 case makeSlice ty l c=>
  split at h
  ·split at h
   ·split at h
    ·split at h
     ·split at h
      ·simp only[Option.some.injEq] at h;subst h
       rcases ho with e|e<;>cases e
      ·cases h
     ·cases h
    ·cases h
   ·cases h
  ·cases h
 case slice ty x lo hi mx=>
  simp only[execOp]
  split at h
  ·rename_i a lo' hi' mx' ha hlo hhi hmx
   obtain ⟨u,hu,rfl⟩:=Option.map_eq_some_iff.1 h
   rcases ho with e|e<;>cases e
   obtain ⟨z,h1,h2⟩:=slice_ok hE (w:=w) hu (hρ _ _ ha) (optOp_ok hρ hlo) (optOp_ok hρ hhi) (optOp_ok hρ hmx)
   exact ⟨z,run_v h1,h2⟩
  ·cases h
 case fieldAddr ty x f=>
  simp only[execOp]
  split at h
  ·rename_i r o off hr hx
   split at h
   ·rename_i fs hd
    split at h
    ·rename_i fd hfd
     split at h
     ·rename_i fr hfr
      split at h
      ·rename_i hz
       simp only[Option.some.injEq] at h;subst h
       rcases ho with e|e<;>cases e
       have hc:=hρ _ _ hx
       simp only[Conc] at hc
       obtain ⟨a,had,hat⟩:=hc
       have hz:=Nat.ne_of_beq_eq_false hz
       refine ⟨.pointer (some (a.add fd.offset)),run_v ?_,?_⟩
       ·rw[had]
        unfold Instr.fieldAt fieldPlace
        simp only[Sem.run_bind,run_und hE hr w,Result.andThen_ok,hd,hfd,Instr.sureAddr,Sem.run_pure,run_size hE hfr w,if_neg hz]
       ·simp only[Conc]
        refine ⟨_,rfl,?_⟩
        unfold atP at hat ⊢
        cases hg:γ o with
        | none=>rw[hg] at hat;exact hat.elim
        | some q=>
          rw[hg] at hat
          cases q with
          | none=>trivial
          | some p=>simp only[] at hat ⊢;rw[hat,addr_add,Nat.add_assoc]
      ·cases h
     ·cases h
    ·cases h
   ·cases h
  ·cases h
 case field ty x f=>
  simp only[execOp]
  split at h
  ·rename_i r cs hr hx
   split at h
   ·rename_i fs hd
    split at h
    ·rename_i fd hfd
     obtain ⟨u,hu,rfl⟩:=Option.map_eq_some_iff.1 h
     rcases ho with e|e<;>cases e
     have hc:=hρ _ _ hx
     simp only[Conc] at hc
     obtain ⟨a,had,hat⟩:=hc
     obtain ⟨z,h1,h2⟩:=part_ok hE (w:=w) hu hat
     refine ⟨z,run_v ?_,h2⟩
     rw[had]
     unfold Instr.field
     simp only[Sem.run_bind,run_und hE hr w,Result.andThen_ok,hd,hfd,asAgg,Sem.run_pure,h1]
    ·cases h
   ·cases h
  ·cases h
 case indexAddr ty x i=>
  simp only[execOp]
  have hatp:∀{o off s:Nat} {a:Addr} {l:Nat},atP γ o off a→atP γ o (off+l * s) (a.add (l * s)):=by
   intro o off s a l ha
   unfold atP at ha ⊢
   cases hg:γ o with
   | none=>rw[hg] at ha;exact ha.elim
   | some q=>
     rw[hg] at ha
     cases q with
     | none=>trivial
     | some p=>simp only[] at ha ⊢;rw[ha,addr_add,Nat.add_assoc]
  split at h
  ·rename_i r xv iv hr hx hi
   split at h
   ·rename_i len elem o off i' hd hn
    split at h
    ·rename_i er her hlt
     simp only[Option.some.injEq] at h;subst h
     rcases ho with e|e<;>cases e
     have hlt:=blt_t hlt
     obtain ⟨k,hk⟩:=natOf_some hn (hρ _ _ hi)
     have hc:=hρ _ _ hx
     simp only[Conc] at hc
     obtain ⟨a,had,hat⟩:=hc
     refine ⟨.pointer (some (a.add (i' * er.info.size))),run_v ?_,by simp only[Conc];exact ⟨_,rfl,hatp hat⟩⟩
     rw[had,hk]
     unfold Instr.indexAt
     have hin:(0≤(i':Int)∧(i':Int)<(len:Int)):=⟨by omega,by omega⟩
     simp only[asIntOf,Instr.sureAddr,Sem.run_bind,run_und hE hr w,Result.andThen_ok,hd,Sem.run_pure,hin,and_self,if_true,run_size hE her w,Int.toNat_natCast]
    ·cases h
   ·rename_i elem o off len cap i' hd hn
    split at h
    ·rename_i er her hlt
     simp only[Option.some.injEq] at h;subst h
     rcases ho with e|e<;>cases e
     have hlt:=blt_t hlt
     obtain ⟨k,hk⟩:=natOf_some hn (hρ _ _ hi)
     have hc:=hρ _ _ hx
     simp only[Conc] at hc
     obtain ⟨a,c,had,hat,hlc,_⟩:=hc
     have hat:=hat.resolve_left (by omega)
     refine ⟨.pointer (some (a.add (i' * er.info.size))),run_v ?_,by simp only[Conc];exact ⟨_,rfl,hatp hat⟩⟩
     rw[had,hk]
     unfold Instr.indexAt
     have hin:(0≤(i':Int)∧(i':Int)<(len:Int)):=⟨by omega,by omega⟩
     simp only[asIntOf,Sem.run_bind,run_und hE hr w,Result.andThen_ok,hd,Sem.run_pure,hin,and_self,if_true,run_size hE her w,Int.toNat_natCast]
    ·cases h
   ·cases h
  ·cases h
 case index ty x i=>
  simp only[execOp]
  split at h
  ·rename_i r xv iv hr hx hi
   split at h
   ·rename_i len elem cs i' hd hn
    split at h
    ·rename_i er her hlt
     obtain ⟨u,hu,rfl⟩:=Option.map_eq_some_iff.1 h
     rcases ho with e|e<;>cases e
     have hlt:=blt_t hlt
     obtain ⟨k,hk⟩:=natOf_some hn (hρ _ _ hi)
     have hc:=hρ _ _ hx
     simp only[Conc] at hc
     obtain ⟨a,had,hat⟩:=hc
     obtain ⟨z,h1,h2⟩:=part_ok hE (w:=w) hu hat
     refine ⟨z,run_v ?_,h2⟩
     rw[had,hk]
     unfold Instr.index
     have hin:(0≤(i':Int)∧(i':Int)<(len:Int)):=⟨by omega,by omega⟩
     simp only[asIntOf,Sem.run_bind,run_und hE hr w,Result.andThen_ok,hd,Sem.run_pure,hin,and_self,if_true,run_size hE her w,Int.toNat_natCast,h1]
    ·cases h
   ·rename_i s i' hd hn
    split at h
    ·rename_i b hb
     simp only[Option.some.injEq] at h;subst h
     rcases ho with e|e<;>cases e
     obtain ⟨k,hk⟩:=natOf_some hn (hρ _ _ hi)
     have hc:=hρ _ _ hx
     rw[conc_lit_iff] at hc
     refine ⟨.int .u8 b.toNat,run_v ?_,conc_lit γ _⟩
     rw[hc,hk]
     unfold Instr.index
     have hb':s[i']?=some b:=by
      have hlt:i'<s.data.toList.length:=(List.getElem?_eq_some_iff.1 hb).1
      have hlt':i'<s.size:=by simpa using hlt
      have:s.data.toList[i']=b:=(List.getElem?_eq_some_iff.1 hb).2
      rw[getElem?_pos s i' hlt']
      rw[←this]
      rfl
     have hin:(0≤(i':Int)):=by omega
     simp only[asIntOf,Sem.run_bind,run_und hE hr w,Result.andThen_ok,hd,Sem.run_pure,hin,if_true,Int.toNat_natCast,hb']
    ·cases h
   ·cases h
  ·cases h
 case lookup ty x k ok=>
  simp only[execOp]
  split at h
  ·rename_i a b ha hb
   obtain ⟨u,hu,rfl⟩:=Option.map_eq_some_iff.1 h
   rcases ho with e|e<;>cases e
   obtain ⟨z,h1,h2⟩:=lookup_ok hE hR hu (hρ _ _ ha) (hρ _ _ hb)
   exact ⟨z,run_v h1,h2⟩
  ·cases h
 case mapUpdate ty m k x=>
  split at h
  ·obtain ⟨u,hu,rfl⟩:=Option.map_eq_some_iff.1 h
   rcases ho with e|e<;>cases e
  ·cases h
 case insert ty m k x=>
  split at h
  ·obtain ⟨u,hu,rfl⟩:=Option.map_eq_some_iff.1 h
   rcases ho with e|e<;>cases e
  ·cases h
 case range ty x=>
  split at h
  ·split at h
   ·split at h
    ·simp only[Option.some.injEq] at h;subst h
     rcases ho with e|e<;>cases e
    ·cases h
   ·cases h
  ·cases h
 case next it isString=>
  split at h
  ·obtain ⟨u,hu,rfl⟩:=Option.map_eq_some_iff.1 h
   rcases ho with e|e<;>cases e
  ·cases h
 case entry it=>
  simp only[execOp]
  split at h
  ·rename_i a ha
   obtain ⟨u,hu,rfl⟩:=Option.map_eq_some_iff.1 h
   rcases ho with e|e<;>cases e
   obtain ⟨z,h1,h2⟩:=entry_ok (P:=P) hR hu (hρ _ _ ha)
   exact ⟨z,run_v h1,h2⟩
  ·cases h
 case typeAssert x xt asserted ok=>
  simp only[execOp]
  split at h
  ·rename_i r ty u hr hx
   split at h
   ·cases h
   ·rename_i hty hd
    simp only[Option.some.injEq] at h;subst h
    rcases ho with e|e<;>cases e
    have hc:=hρ _ _ hx
    simp only[Conc] at hc
    obtain ⟨y,had,hy⟩:=hc
    have hty:=Nat.eq_of_beq_eq_true hty
    subst hty
    have hrun:(Instr.typeAssert (ρ x) xt ty ok).run P w=.ok (if ok then .tuple #[y,.bool true] else y) w:=by
     rw[had]
     unfold Instr.typeAssert
     simp only[Sem.run_bind,run_und hE hr w,Result.andThen_ok]
     simp
    refine ⟨_,run_v hrun,?_⟩
    cases ok with
    | true=>
      simp only[Conc,if_true]
      exact ⟨_,rfl,by simp only[Concs];exact ⟨y,[.bool true],rfl,hy,.bool true,[],rfl,conc_lit γ _,rfl⟩⟩
    | false=>exact hy
   ·cases h
  ·cases h
 case extract x i=>
  simp only[execOp]
  split at h
  ·rename_i vs hx
   obtain ⟨u,hu,rfl⟩:=Option.map_eq_some_iff.1 h
   rcases ho with e|e<;>cases e
   have hc:=hρ _ _ hx
   simp only[Conc] at hc
   obtain ⟨a,had,hat⟩:=hc
   obtain ⟨y,hy,hcy⟩:=concs_get hat i v hu
   refine ⟨y,run_v ?_,hcy⟩
   rw[had]
   have:a[i]?=some y:=by simpa using hy
   simp only[Instr.extract,this,Sem.run_pure]
  ·rename_i vs hx
   obtain ⟨u,hu,rfl⟩:=Option.map_eq_some_iff.1 h
   rcases ho with e|e<;>cases e
   have hc:=hρ _ _ hx
   rw[conc_lit_iff] at hc
   refine ⟨u,run_v ?_,conc_lit γ u⟩
   rw[hc]
   simp only[Instr.extract,hu,Sem.run_pure]
  ·cases h
 case call c=>
  split at h
  ·cases h
  ·rename_i args hargs
   have hc:=concs_allSome hρ hargs
   have hnc:∀f,fnCall f args=some out→False:=by
    intro f hf
    unfold fnCall at hf
    split at hf
    ·simp only[Option.some.injEq] at hf;subst hf
     rcases ho with e|e<;>cases e
    ·simp only[Option.some.injEq] at hf;subst hf
     rcases ho with e|e<;>cases e
    ·cases hf
   split at h
   ·split at h
    ·exact (hnc _ h).elim
    ·cases h
   ·rename_i b hcal
    simp only[execOp,resolve,hcal,invoke,builtin]
    unfold builtinA at h
    split at h
    ·rename_i ty _ x _
     obtain ⟨u,hu,rfl⟩:=Option.map_eq_some_iff.1 h
     rcases ho with e|e<;>cases e
     rename_i hts
     simp only[Concs] at hc
     obtain ⟨y,ys,hys,hy,_⟩:=hc
     obtain ⟨z,h1,h2⟩:=len_ok hE hR hu hy (ts:=c.argTypes) (ty:=type) (ys:=c.args.map ρ) (by rw[←Array.getElem?_toList,hts];rfl) (by rw[←Array.getElem?_toList,Array.toList_map,hys];rfl)
     refine ⟨z,?_,h2⟩
     simp only[Sem.run_bind,Sem.run_pure,Result.andThen_ok,builtin]
     simp only[h1,Result.andThen_ok]
    ·split at h
     ·split at h
      ·split at h
       ·cases h
       ·obtain ⟨u,hu,rfl⟩:=Option.map_eq_some_iff.1 h
        rcases ho with e|e<;>cases e
      ·cases h
     ·cases h
    ·obtain ⟨u,hu,rfl⟩:=Option.map_eq_some_iff.1 h
     rcases ho with e|e<;>cases e
    ·obtain ⟨u,hu,rfl⟩:=Option.map_eq_some_iff.1 h
     rcases ho with e|e<;>cases e
    ·obtain ⟨u,hu,rfl⟩:=Option.map_eq_some_iff.1 h
     rcases ho with e|e<;>cases e
     obtain ⟨x,rest,z,hxs,h1,h2⟩:=minmax_ok (P:=P) (w:=w) hu hc
     refine ⟨z,?_,h2⟩
     simp only[Sem.run_bind,Sem.run_pure,Result.andThen_ok,builtin,Builtin.min_,Array.toList_map,hxs]
     simp only[h1,Result.andThen_ok]
    ·obtain ⟨u,hu,rfl⟩:=Option.map_eq_some_iff.1 h
     rcases ho with e|e<;>cases e
     obtain ⟨x,rest,z,hxs,h1,h2⟩:=minmax_ok (P:=P) (w:=w) hu hc
     refine ⟨z,?_,h2⟩
     simp only[Sem.run_bind,Sem.run_pure,Result.andThen_ok,builtin,Builtin.max_,Array.toList_map,hxs]
     simp only[h1,Result.andThen_ok]
    ·cases h
   ·split at h
    ·split at h
     ·split at h
      ·split at h
       ·simp only[Option.some.injEq] at h;subst h
        rcases ho with e|e<;>cases e
       ·cases h
      ·cases h
     ·cases h
    ·cases h
 all_goals cases h
end
def upd(γ:Gam)(id:Nat)(q:Option Place):Gam:=fun o=>if o=id then some q else γ o
theorem upd_self(γ:Gam)(id:Nat)(q:Option Place):upd γ id q id=some q:=by simp[upd]
theorem upd_ne(γ:Gam){id o:Nat}(q:Option Place)(h:o≠id):upd γ id q o=γ o:=by simp[upd,h]
theorem ext_upd{γ:Gam}{id:Nat}(q:Option Place)(h:γ id=none):Ext γ (upd γ id q):=fun o p hp=>by
 have:o≠id:=fun e=>by rw[e,h] at hp;cases hp
 rw[upd_ne γ q this];exact .inl hp
theorem ext_kill{γ:Gam}(id:Nat):Ext γ (upd γ id none):=fun o p hp=>by
 by_cases e:o=id
 ·subst e;exact .inr (upd_self γ o none)
 ·rw[upd_ne γ none e];exact .inl hp
theorem ObjRel.mono{γ γ':Gam}(hx:Ext γ γ'){ob:AObj}{p:Place}{w w':World}(hw:w'.heap[p.block]?=w.heap[p.block]?)(h:ObjRel γ ob p w):ObjRel γ' ob p w':=by
 cases ob with
 | cells l elem=>
   obtain ⟨c,hb,hs,hl,hc⟩:=h
   exact ⟨c,hw.trans hb,hs,hl,fun i v hv=>let ⟨x,h1,h2⟩:=hc i v hv;⟨x,h1,h2.mono hx _ _⟩⟩
 | row xs elem=>
   obtain ⟨c,hb,hs,hl,hc⟩:=h
   exact ⟨c,hw.trans hb,hs,hl,hc⟩
 | res R=>exact h.elim
 | mrow es=>
   obtain ⟨es',clock,hb,hs⟩:=h
   exact ⟨es',clock,hw.trans hb,hs⟩
 | map es clock=>
   obtain ⟨es',hb,he⟩:=h
   exact ⟨es',hw.trans hb,entRel_mono hx he⟩
 | iter m since seen stepped=>
   obtain ⟨h0,r,hb,hr⟩:=h
   exact ⟨h0,r,hw.trans hb,hr.mono hx⟩
 | dead=>trivial
theorem ObjRel.lt{γ:Gam}{ob:AObj}{p:Place}{w:World}(h:ObjRel γ ob p w)(hd:ob≠.dead):p.block<w.heap.size:=by
 cases ob with
 | cells l elem=>obtain ⟨c,hb,_⟩:=h;exact (Array.getElem?_eq_some_iff.1 hb).1
 | row xs elem=>obtain ⟨c,hb,_⟩:=h;exact (Array.getElem?_eq_some_iff.1 hb).1
 | res R=>exact h.elim
 | mrow es=>obtain ⟨es',clock,hb,_⟩:=h;exact (Array.getElem?_eq_some_iff.1 hb).1
 | map es clock=>obtain ⟨es',hb,_⟩:=h;exact (Array.getElem?_eq_some_iff.1 hb).1
 | iter m since seen stepped=>obtain ⟨_,r,hb,_⟩:=h;exact (Array.getElem?_eq_some_iff.1 hb).1
 | dead=>exact absurd rfl hd
structure Frz where
 w:World
 fz:Nat→Prop
structure Frame(F:Frz)(γ:Gam)(w:World):Prop where
 os:w.os=F.w.os
 tape:w.tape=F.w.tape
 output:w.output=F.w.output
 size:F.w.heap.size≤w.heap.size
 old:∀b,F.fz b→b<F.w.heap.size
 block:∀b,F.fz b→w.heap[b]?=F.w.heap[b]?
 own:∀o p,γ o=some (some p)→¬F.fz p.block
structure Turn(b:Nat)(w w':World):Prop where
 os:w'.os=w.os
 tape:w'.tape=w.tape
 output:w'.output=w.output
 size:w.heap.size≤w'.heap.size
 block:∀c,c≠b→w'.heap[c]?=w.heap[c]?
theorem turn_set(w:World)(b:Nat)(o:Obj):Turn b w { w with heap:=w.heap.setIfInBounds b o }:=
 ⟨rfl,rfl,rfl,by simp,fun c h=>Array.getElem?_setIfInBounds_ne (Ne.symm h)⟩
theorem Frame.turn{F:Frz}{γ:Gam}{w w':World}(h:Frame F γ w){b:Nat}(hb:¬F.fz b)(ht:Turn b w w'):Frame F γ w':=
 ⟨ht.os.trans h.os,ht.tape.trans h.tape,ht.output.trans h.output,Nat.le_trans h.size ht.size,h.old,fun c hc=>(ht.block c fun e=>hb (e ▸ hc)).trans (h.block c hc),h.own⟩
theorem Frame.less{F:Frz}{γ γ':Gam}{w:World}(h:Frame F γ w)(hg:∀o p,γ' o=some (some p)→∃o' p',γ o'=some (some p')∧p'.block=p.block):Frame F γ' w:=
 ⟨h.os,h.tape,h.output,h.size,h.old,h.block,fun o p hp=>let ⟨o',p',h1,h2⟩:=hg o p hp;h2 ▸ h.own o' p' h1⟩
theorem Frame.push{F:Frz}{γ γ':Gam}{w:World}(h:Frame F γ w)(ob:Obj)(hg:∀o p,γ' o=some (some p)→γ o=some (some p)∨p.block=w.heap.size):Frame F γ' { w with heap:=w.heap.push ob }:=
 ⟨h.os,h.tape,h.output,by have:=h.size;simp;omega,h.old,fun c hc=>by
  have h1:=h.old c hc
  have h2:=h.size
  show (w.heap.push ob)[c]?=_
  rw[Array.getElem?_push,if_neg (by omega)]
  exact h.block c hc,fun o p hp=>by
  rcases hg o p hp with h1|h1
  ·exact h.own o p h1
  ·intro hc
   have h2:=h.old _ hc
   have h3:=h.size
   omega⟩
structure RelL(F:Frz)(γ:Gam)(σ:AS)(w:World):Prop extends Rel γ σ w where
 live:∀o p,γ o=some (some p)→σ.heap.get o≠some .dead
 frame:Frame F γ w
theorem Rel.heap{γ:Gam}{σ:AS}{w w':World}(h:Rel γ σ w)(hw:w'.heap=w.heap):Rel γ σ w':=
 ⟨h.dom,fun o p hp=>let ⟨ob,h1,h2⟩:=h.obj o p hp;⟨ob,h1,h2.mono (.refl γ) (by rw[hw])⟩,h.gone,h.inj,h.lim⟩
theorem RelL.heap{F:Frz}{γ:Gam}{σ:AS}{w w':World}(h:RelL F γ σ w)(hw:w'.heap=w.heap)(h1:w'.os=w.os:=by rfl)(h2:w'.tape=w.tape:=by rfl)(h3:w'.output=w.output:=by rfl):RelL F γ σ w':=
 ⟨h.toRel.heap hw,h.live,⟨h1.trans h.frame.os,h2.trans h.frame.tape,h3.trans h.frame.output,by rw[hw];exact h.frame.size,h.frame.old,fun b hb=>by rw[hw];exact h.frame.block b hb,h.frame.own⟩⟩
theorem RelL.lt{F:Frz}{γ:Gam}{σ:AS}{w:World}(h:RelL F γ σ w){o:Nat}{p:Place}(hp:γ o=some (some p)):p.block<w.heap.size:=by
 obtain ⟨ob,h1,h2⟩:=h.obj o p hp
 exact h2.lt fun e=>h.live o p hp (by rw[h1,e])
theorem RelL.next_lt{F:Frz}{γ:Gam}{σ:AS}{w:World}(h:RelL F γ σ w){o:Nat}(hp:γ o≠none):o<σ.next:=by
 rcases Nat.lt_or_ge o σ.next with h'|h'
 ·exact h'
 ·exact absurd (h.dom o h') hp
theorem RelL.more{F:Frz}{γ:Gam}{σ:AS}{w:World}(h:RelL F γ σ w)(hl:σ.next<lim)(ob:AObj):RelL F γ { heap:=σ.heap.put σ.next ob,next:=σ.next+1 } w:=by
 have hne:∀o,γ o≠none→o≠σ.next:=fun o ho e=>ho (h.dom o (by omega))
 refine ⟨⟨fun o ho=>h.dom o (by simp only[] at ho;omega),fun o p hp=>?_,fun o ho=>?_,h.inj,by simp only[];omega⟩,fun o p hp=>?_,h.frame⟩
 ·obtain ⟨ob',h1,h2⟩:=h.obj o p hp
  refine ⟨ob',?_,h2⟩
  simp only[]
  rw[T.get_put _ _ _ _ (Nat.le_of_lt hl),if_neg (hne o (by rw[hp];simp))]
  exact h1
 ·simp only[]
  rw[T.get_put _ _ _ _ (Nat.le_of_lt hl),if_neg (hne o (by rw[ho];simp))]
  exact h.gone o ho
 ·simp only[]
  rw[T.get_put _ _ _ _ (Nat.le_of_lt hl),if_neg (hne o (by rw[hp];simp))]
  exact h.live o p hp
theorem Step.more{F:Frz}{γ:Gam}{σ:AS}{w:World}(h:RelL F γ σ w)(hl:σ.next<lim)(ob:AObj):Step γ σ γ { heap:=σ.heap.put σ.next ob,next:=σ.next+1 }:=
 ⟨.refl γ,fun _ _ h=>h,Nat.le_succ _,fun o ho _=>by simp only[];rw[T.get_put _ _ _ _ (Nat.le_of_lt hl),if_neg (by omega)]⟩
theorem RelL.place{F:Frz}{γ:Gam}{σ:AS}{w:World}(h:RelL F γ σ w){id:Nat}{ob:AObj}(hid:id<σ.next)(hg:γ id=none)(hob:σ.heap.get id=some ob)(hd:ob≠.dead)(cob:Obj)(base top:Nat)
  (hrel:ObjRel (upd γ id (some ⟨w.heap.size,base,top⟩)) ob ⟨w.heap.size,base,top⟩ { w with heap:=w.heap.push cob }) :
  RelL F (upd γ id (some ⟨w.heap.size,base,top⟩)) σ { w with heap:=w.heap.push cob }:=by
 have hx:=ext_upd (some ⟨w.heap.size,base,top⟩) hg
 refine ⟨⟨fun o ho=>?_,fun o p hp=>?_,fun o ho=>?_,fun o o' p p' hp hp' e=>?_,h.lim⟩,fun o p hp=>?_,h.frame.push cob fun o p hp=>?_⟩
 ·rw[upd_ne _ _ (by omega)];exact h.dom o ho
 ·by_cases e:o=id
  ·subst e
   rw[upd_self] at hp
   cases hp
   exact ⟨ob,hob,hrel⟩
  ·rw[upd_ne _ _ e] at hp
   obtain ⟨ob',h1,h2⟩:=h.obj o p hp
   refine ⟨ob',h1,h2.mono hx ?_⟩
   simp only[]
   rw[Array.getElem?_push,if_neg (by have:=h.lt hp;omega)]
 ·by_cases e:o=id
  ·subst e;rw[upd_self] at ho;cases ho
  ·rw[upd_ne _ _ e] at ho;exact h.gone o ho
 ·by_cases e1:o=id<;>by_cases e2:o'=id
  ·rw[e1,e2]
  ·subst e1
   rw[upd_self] at hp;cases hp
   rw[upd_ne _ _ e2] at hp'
   have:=h.lt hp'
   simp only[] at e
   omega
  ·subst e2
   rw[upd_self] at hp';cases hp'
   rw[upd_ne _ _ e1] at hp
   have:=h.lt hp
   simp only[] at e
   omega
  ·rw[upd_ne _ _ e1] at hp
   rw[upd_ne _ _ e2] at hp'
   exact h.inj o o' p p' hp hp' e
 ·by_cases e:o=id
  ·subst e;rw[hob];intro hh;exact hd (Option.some.inj hh)
  ·rw[upd_ne _ _ e] at hp;exact h.live o p hp
 ·by_cases e:o=id
  ·subst e;rw[upd_self] at hp;cases hp;exact .inr rfl
  ·rw[upd_ne _ _ e] at hp;exact .inl hp
theorem RelL.set{F:Frz}{γ:Gam}{σ:AS}{w w':World}(h:RelL F γ σ w){o:Nat}{p:Place}{ob:AObj}(hp:γ o=some (some p))(hd:ob≠.dead)
  (hrel:ObjRel γ ob p w') (hw:Turn p.block w w'):RelL F γ { σ with heap:=σ.heap.put o ob } w':=by
 have ho:o≤lim:=Nat.le_trans (Nat.le_of_lt (h.next_lt (by rw[hp];simp))) h.lim
 refine ⟨⟨h.dom,fun q r hq=>?_,fun q hq=>?_,h.inj,h.lim⟩,fun q r hq=>?_,h.frame.turn (h.frame.own o p hp) hw⟩
 ·simp only[]
  rw[T.get_put _ _ _ _ ho]
  by_cases e:q=o
  ·subst e
   rw[hp] at hq;cases hq
   exact ⟨ob,by simp,hrel⟩
  ·rw[if_neg e]
   obtain ⟨ob',h1,h2⟩:=h.obj q r hq
   exact ⟨ob',h1,h2.mono (.refl γ) (hw.block _ fun e'=>e (h.inj q o r p hq hp e'))⟩
 ·simp only[]
  rw[T.get_put _ _ _ _ ho,if_neg (fun e=>by rw[e,hp] at hq;cases hq)]
  exact h.gone q hq
 ·simp only[]
  rw[T.get_put _ _ _ _ ho]
  by_cases e:q=o
  ·rw[if_pos e];intro hh;exact hd (Option.some.inj hh)
  ·rw[if_neg e];exact h.live q r hq
theorem Step.set{F:Frz}{γ:Gam}{σ:AS}{w:World}(h:RelL F γ σ w){o:Nat}{p:Place}(ob:AObj)(hp:γ o=some (some p)):Step γ σ γ { σ with heap:=σ.heap.put o ob }:=by
 have ho:o≤lim:=Nat.le_trans (Nat.le_of_lt (h.next_lt (by rw[hp];simp))) h.lim
 exact ⟨.refl γ,fun _ _ h=>h,Nat.le_refl _,fun q _ hq=>by simp only[];rw[T.get_put _ _ _ _ ho,if_neg (fun e=>by rw[e,hp] at hq;cases hq)]⟩
theorem RelL.kill{F:Frz}{γ:Gam}{σ:AS}{w:World}(h:RelL F γ σ w){o:Nat}(hp:γ o≠none):RelL F (upd γ o none) { σ with heap:=σ.heap.put o .dead } w:=by
 have ho':=h.next_lt hp
 have ho:o≤lim:=Nat.le_trans (Nat.le_of_lt ho') h.lim
 refine ⟨⟨fun q hq=>?_,fun q r hq=>?_,fun q hq=>?_,fun q q' r r' hq hq' e=>?_,h.lim⟩,fun q r hq=>?_,h.frame.less fun q r hq=>⟨q,r,by rwa [upd_ne _ _ (fun e=>by rw[e,upd_self] at hq;cases hq)] at hq,rfl⟩⟩
 ·rw[upd_ne _ _ (by simp only[] at hq;omega)];exact h.dom q hq
 ·have e:q≠o:=fun e=>by rw[e,upd_self] at hq;cases hq
  rw[upd_ne _ _ e] at hq
  simp only[]
  rw[T.get_put _ _ _ _ ho,if_neg e]
  obtain ⟨ob',h1,h2⟩:=h.obj q r hq
  exact ⟨ob',h1,h2.mono (ext_kill o) rfl⟩
 ·simp only[]
  rw[T.get_put _ _ _ _ ho]
  by_cases e:q=o
  ·rw[if_pos e]
  ·rw[if_neg e];rw[upd_ne _ _ e] at hq;exact h.gone q hq
 ·have e1:q≠o:=fun e=>by rw[e,upd_self] at hq;cases hq
  have e2:q'≠o:=fun e=>by rw[e,upd_self] at hq';cases hq'
  rw[upd_ne _ _ e1] at hq
  rw[upd_ne _ _ e2] at hq'
  exact h.inj q q' r r' hq hq' e
 ·have e:q≠o:=fun e=>by rw[e,upd_self] at hq;cases hq
  rw[upd_ne _ _ e] at hq
  simp only[]
  rw[T.get_put _ _ _ _ ho,if_neg e]
  exact h.live q r hq
theorem Step.place{γ:Gam}{σ:AS}{id:Nat}(q:Option Place)(hg:γ id=none):∀σ0,σ0.next≤id→Step γ σ0 γ σ→Step γ σ0 (upd γ id q) σ:=fun σ0 hid h=>
 ⟨ext_upd q hg,fun o ho hgo=>by rw[upd_ne _ _ (by omega)];exact h.new o ho hgo,h.le,h.same⟩
theorem obj_cells{γ γ':Gam}(hx:Ext γ γ'){l:List AV}{cs:Array Value}{elem:TypeId}(h:Concs γ l cs.toList){b:Nat}{w:World}(hw:w.heap[b]?=some (.cells cs elem (0,0))):ObjRel γ' (.cells l elem) ⟨b,0,cs.size⟩ w:=
 ⟨cs,hw,⟨rfl,fun _=>⟨rfl,by have:=concs_length h;simp at this;simp;omega⟩⟩,by have:=concs_length h;simp at this;simp;omega,fun i v hv=>by
  obtain ⟨x,h1,h2⟩:=concs_get h i v hv
  exact ⟨x,by simpa using h1,h2.mono hx _ _⟩⟩
section
variable{P:Program}{E:Env}(hE:EnvOk P E){γ:Gam}{σ:AS}{w:World}{t:Tmps}{ρ:Operand→Value}
include hE
theorem new_ok(hρ:OpRel γ t ρ)(o:Oper){ob:AObj}{k:NewK}(h:evOp E t σ o.op=some (.new ob k)) :
  ob≠.dead∧∃cob x top,(execOp ρ o).run P w=.ok (.value x) { w with heap:=w.heap.push cob }∧∀γ' id w',Ext γ γ'→γ' id=some (some ⟨w.heap.size,0,top⟩)→w'.heap[w.heap.size]?=some cob →
   ObjRel γ' ob ⟨w.heap.size,0,top⟩ w'∧Conc γ' (k.val id) x:=by
 obtain ⟨dst,op,type,pos,after,guard⟩:=o
 simp only[] at h
 have hptr:∀(γ':Gam) (id top:Nat),γ' id=some (some ⟨w.heap.size,0,top⟩)→Conc γ' (NewK.val id .ptr) (.pointer (some ⟨w.heap.size,0,none⟩)):=by
  intro γ' id top hg
  simp only[NewK.val,Conc]
  exact ⟨_,rfl,by unfold atP;rw[hg]⟩
 have hsl:∀(γ':Gam) (id top l c:Nat),l≤c→γ' id=some (some ⟨w.heap.size,0,top⟩)→Conc γ' (NewK.val id (.slice l c)) (.slice (some ⟨w.heap.size,0,none⟩) l c):=by
  intro γ' id top l c hlc hg
  simp only[NewK.val,Conc]
  exact ⟨_,_,rfl,.inr (by unfold atP;rw[hg]),hlc,rfl⟩
 cases op<;>simp only[evOp] at h
 case alloc elem=>
  split at h
  ·rename_i r hr
   obtain ⟨z,hz,e⟩:=Option.map_eq_some_iff.1 h
   cases e
   refine ⟨by simp,.cells z.cells elem,.pointer (some ⟨w.heap.size,0,none⟩),z.cells.size,?_,fun γ' id w' hx hg hw=>⟨obj_cells hx (conc_cells (conc_ofValue γ z)) hw,hptr γ' id _ hg⟩⟩
   simp only[execOp]
   exact run_v (by simp only[Instr.alloc,Sem.run_bind,run_zero hE hr w hz,Result.andThen_ok,newVar,newRow,run_newObj,Sem.run_pure])
  ·cases h
 case box elem x=>
  obtain ⟨v,hv,e⟩:=Option.map_eq_some_iff.1 h
  cases e
  refine ⟨by simp,.cells (ρ x).cells elem,.pointer (some ⟨w.heap.size,0,none⟩),(ρ x).cells.size,?_,fun γ' id w' hx hg hw=>⟨obj_cells hx (conc_cells (hρ _ _ hv)) hw,hptr γ' id _ hg⟩⟩
  simp only[execOp]
  exact run_v (by simp only[Instr.box,Sem.run_bind,Result.andThen_ok,newVar,newRow,run_newObj,Sem.run_pure])
 case makeMap ty r=>
  cases r with
  | some _=>cases h
  | none=>
    cases h
    refine ⟨by simp,.map #[] 0,.map (some w.heap.size),0,?_,fun γ' id w' hx hg hw=>⟨⟨#[],hw,rfl⟩,?_⟩⟩
    ·simp only[execOp,Option.map_none]
     exact run_v (by simp only[Instr.makeMap,Sem.run_bind,Result.andThen_ok,run_newObj,Sem.run_pure])
    ·simp only[NewK.val,Conc]
     exact ⟨_,rfl,by unfold mapP;rw[hg]⟩
 case buildSlice ty len parts=>
  split at h
  ·rename_i r vs hr hvs
   split at h
   ·rename_i elem hd
    split at h
    ·rename_i er her
     split at h
     ·rename_i z hz
      split at h
      ·rename_i hb
       obtain ⟨l,hl,e⟩:=Option.map_eq_some_iff.1 h
       cases e
       rw[Bool.and_eq_true] at hb
       have hb1:=Nat.le_of_ble_eq_true hb.1
       have hb2:=Nat.eq_of_beq_eq_true hb.2
       have hp:=concs_allSome hρ hvs
       have hlen:vs.length=parts.toList.length:=by have:=concs_length hp;simpa using this.symm
       have hparts:∀(i:Nat) (p:Nat×AV),((parts.toList.map (·.1)).zip vs)[i]?=some p→∃x,((parts.map fun (i,x)=>(i,ρ x)).toList)[i]?=some (p.1,x)∧Conc γ p.2 x:=by
        intro i p hi
        rw[List.getElem?_zip_eq_some] at hi
        obtain ⟨h1,h2⟩:=hi
        obtain ⟨x,hx,hc⟩:=concs_get hp i p.2 h2
        refine ⟨x,?_,hc⟩
        simp only[List.getElem?_map,Option.map_eq_some_iff,Array.toList_map] at h1 hx ⊢
        obtain ⟨q,hq,e⟩:=h1
        obtain ⟨q',⟨q'',hq'',e''⟩,e'⟩:=hx
        rw[hq] at hq''
        cases hq''
        exact ⟨q,hq,by rw[←e,←e',←e'']⟩
       have hl2:(parts.map fun (i,x)=>(i,ρ x)).toList.length=((parts.toList.map (·.1)).zip vs).length:=by simp[hlen]
       have hzc:Concs γ (ofValue z).cells z.cells.toList:=conc_cells (conc_ofValue γ z)
       have hzs:z.cells.size=er.info.size:=by have:=concs_length hzc;rw[hb2] at this;simpa using this
       have hrep:=rep_ok z.cells er.info.size hzs len
       obtain ⟨out',ho,hc⟩:=fill_ok (fun i=>some (i * er.info.size,er.info.size)) _ _ _ ((Array.range (len * er.info.size)).map (z.cells[· % z.cells.size]!)) _ hl2 hparts (by rw[hrep];exact concs_rep hzc len) hl
       refine ⟨by simp,.cells out' elem,.slice (some ⟨w.heap.size,0,none⟩) len len,out'.size,?_,fun γ' id w' hx hg hw=>⟨obj_cells hx hc hw,hsl γ' id _ _ _ (Nat.le_refl _) hg⟩⟩
       simp only[execOp]
       refine run_v ?_
       unfold Instr.buildSlice
       have hsm:¬len * er.info.size>2 ^ 24:=by omega
       simp only[Sem.run_bind,run_und hE hr w,hd,Result.andThen_ok,run_size hE her w,if_neg hsm]
       by_cases h0:len * er.info.size=0
       ·have:(Array.range (len * er.info.size)).map (fun x=>(#[]:Array Value)[x % (#[]:Array Value).size]!)=(Array.range (len * er.info.size)).map (z.cells[· % z.cells.size]!):=by
         rw[h0];simp
        rw[if_pos h0]
        simp only[Sem.run_pure,Result.andThen_ok,this,ho,Sem.run_bind,newRow,run_newObj]
       ·rw[if_neg h0]
        simp only[Sem.run_bind,run_zero hE her w hz,Sem.run_pure,Result.andThen_ok,ho,newRow,run_newObj]
      ·cases h
     ·cases h
    ·cases h
   ·cases h
  ·cases h
 case makeSlice ty l c=>
  split at h
  ·rename_i r lv cv hr hlv hcv
   split at h
   ·rename_i elem ln cn hd hln hcn
    split at h
    ·rename_i er her
     split at h
     ·rename_i z hz
      split at h
      ·rename_i hb
       cases h
       simp only[Bool.and_eq_true] at hb
       obtain ⟨⟨⟨hb1,hb2⟩,hb3⟩,hb4⟩:=hb
       have hb1:=Nat.le_of_ble_eq_true hb1
       have hb2:=Nat.le_of_ble_eq_true hb2
       have hb3:=Nat.le_of_ble_eq_true hb3
       have hb4:=Nat.eq_of_beq_eq_true hb4
       obtain ⟨k1,hk1⟩:=natOf_some hln (hρ _ _ hlv)
       obtain ⟨k2,hk2⟩:=natOf_some hcn (hρ _ _ hcv)
       have hzc:Concs γ (ofValue z).cells z.cells.toList:=conc_cells (conc_ofValue γ z)
       have hzs:z.cells.size=er.info.size:=by have:=concs_length hzc;rw[hb4] at this;simpa using this
       have hrep:=rep_ok z.cells er.info.size hzs cn
       refine ⟨by simp,.cells ((Array.range (cn * er.info.size)).map (z.cells[· % z.cells.size]!)) elem,.slice (some ⟨w.heap.size,0,none⟩) ln cn,_,?_,
        fun γ' id w' hx hg hw=>⟨obj_cells hx (by rw[hrep];exact concs_rep hzc cn) hw,hsl γ' id _ _ _ hb1 hg⟩⟩
       simp only[execOp]
       refine run_v ?_
       rw[hk1,hk2]
       unfold Instr.makeSlice
       have w1:IntKind.i64.wrap (ln:Int)=ln:=by
        unfold IntKind.wrap IntKind.bits IntKind.signed;simp;omega
       have w2:IntKind.i64.wrap (cn:Int)=cn:=by
        unfold IntKind.wrap IntKind.bits IntKind.signed;simp;omega
       have hbytes:¬((er.info.bytes:Int) * (cn:Int)>2 ^ 48):=by
        have:=Nat.mul_le_mul hb3 hb2
        have h2:((er.info.bytes * cn:Nat):Int)≤((65536 * 65536:Nat):Int):=Int.ofNat_le.2 this
        rw[Int.natCast_mul] at h2
        omega
       have hif:((decide ((cn:Int)<0) || decide ((er.info.bytes:Int) * (cn:Int)>2 ^ 48)) || decide ((ln:Int)<0) || decide ((ln:Int)>(cn:Int)))=false:=by
        simp only[Bool.or_eq_false_iff,decide_eq_false_iff_not]
        exact ⟨⟨⟨by omega,hbytes⟩,by omega⟩,by omega⟩
       simp only[Sem.run_bind,run_und hE hr w,hd,Result.andThen_ok,asInt,asIntOf,Sem.run_pure,run_info hE her w,w1,w2,hif,Bool.false_eq_true,if_false,run_askRoom,Int.toNat_natCast,run_size hE her w]
       by_cases h0:cn * er.info.size=0
       ·have:(Array.range (cn * er.info.size)).map (fun x=>(#[]:Array Value)[x % (#[]:Array Value).size]!)=(Array.range (cn * er.info.size)).map (z.cells[· % z.cells.size]!):=by
         rw[h0];simp
        rw[if_pos h0]
        simp only[Sem.run_pure,Result.andThen_ok,this,Sem.run_bind,newRow,run_newObj]
       ·rw[if_neg h0]
        simp only[Sem.run_bind,run_zero hE her w hz,Sem.run_pure,Result.andThen_ok,newRow,run_newObj]
      ·cases h
     ·cases h
    ·cases h
   ·cases h
  ·cases h
 case call c=>
  split at h
  ·cases h
  ·split at h
   ·split at h
    ·unfold fnCall at h
     split at h<;>cases h
    ·cases h
   ·unfold builtinA at h
    (repeat' split at h)<;>first|cases h|(obtain ⟨_,_,e⟩:=Option.map_eq_some_iff.1 h;cases e)
   ·(repeat' split at h)<;>cases h
 case convert src dst x=>
  split at h
  ·unfold convA at h
   (repeat' split at h)<;>first|cases h|(obtain ⟨_,_,e⟩:=Option.map_eq_some_iff.1 h;cases e)
  ·cases h
 all_goals
  (repeat' split at h)<;>first|cases h|(obtain ⟨_,_,e⟩:=Option.map_eq_some_iff.1 h;cases e)
end
open Go.RowKit (Below) in
theorem RelL.grown{F:Frz}{γ:Gam}{σ:AS}{w w':World}(h:RelL F γ σ w)(hb:Below w.heap.size w w'):RelL F γ σ w':=by
 refine ⟨⟨h.dom,fun o p hp=>?_,h.gone,h.inj,h.lim⟩,h.live,⟨hb.os.trans h.frame.os,hb.tape.trans h.frame.tape,hb.output.trans h.frame.output,Nat.le_trans h.frame.size hb.size,h.frame.old,fun b hf=>?_,h.frame.own⟩⟩
 ·obtain ⟨ob,h1,h2⟩:=h.obj o p hp
  exact ⟨ob,h1,h2.mono (.refl γ) (hb.block _ (h.lt hp))⟩
 ·exact (hb.block b (Nat.lt_of_lt_of_le (h.frame.old b hf) h.frame.size)).trans (h.frame.block b hf)
def frz(w:World)(γ:Gam):Frz:=⟨w,fun b=>b<w.heap.size∧∀o p,γ o=some (some p)→p.block≠b⟩
theorem frame_start(w:World)(γ:Gam):Frame (frz w γ) γ w:=
 ⟨rfl,rfl,rfl,Nat.le_refl _,fun _ h=>h.1,fun _ _=>rfl,fun o p hp h=>h.2 o p hp rfl⟩
def emp:Gam:=fun _=>none
def σe:AS:=⟨.e,0⟩
theorem rel_start(w:World):RelL (frz w emp) emp σe w:=
 ⟨⟨fun _ _=>rfl,fun o p h=>by simp[emp] at h,fun o h=>by simp[emp] at h,fun o o' p p' h=>by simp[emp] at h,Nat.zero_le _⟩,fun o p h=>by simp[emp] at h,frame_start w emp⟩
open Go.RowKit (Below) in
theorem below_of{w w':World}{γ:Gam}(h:Frame (frz w emp) γ w'):Below w.heap.size w w':=
 ⟨h.os,h.tape,h.output,h.size,fun b hb=>h.block b ⟨hb,fun o p hp=>by simp[emp] at hp⟩⟩
end Go.Proofs.YtmbdghclhpboaaaGreat.Ev
