/- Part of the proof: EvH. Conditions: as each states. -/
import Derived.Test.YtmbdghclhpboaaaGreatPb4
set_option linter.all false
namespace Go.Proofs.YtmbdghclhpboaaaGreat.Ev
def FindRel(γ:Gam):Option (Nat×AV)→Option (Nat×Value)→Prop
 | none,none=>True
 | some (j,v),some (j',v')=>j=j'∧Conc γ v v'
 | _,_=>False
theorem fits_lits:∀{ks:List Nat} {l:List AV},fits ks l=true→∃xs:List Value,l=xs.map .lit
 | [],[],_=>⟨[],rfl⟩
 | [],_::_,h=>by simp[fits] at h
 | _::_,[],h=>by simp[fits] at h
 | k::ks,v::l,h=>by
   cases v with
   | lit u=>
     simp only[fits,Bool.and_eq_true] at h
     obtain ⟨xs,rfl⟩:=fits_lits h.2
     exact ⟨u::xs,rfl⟩
   | _=>simp[fits] at h
section
variable{P:Program}{E:Env}(hE:EnvOk P E){γ:Gam}{σ:AS}{w:World}
include hE
theorem checkKey_ok{t:TypeId}{k:AV}{d:TypeDesc}{x:Value}{b:Bool}(h:keyTy E t k=some d)(hx:Conc γ k x):(Instr.checkKey b 10000 t x).run P w=.ok () w:=by
 unfold keyTy at h
 cases hr:E.ty t with
 | none=>rw[hr] at h;cases h
 | some r=>
   rw[hr] at h
   simp only[] at h
   have hk:=fun n k e (h1:r.flat=some n) (h2:r.und=.array k e) xs=>hE.key t r n k e hr h1 h2 xs b w
   have hmax:(10000:Nat)=9999+1:=rfl
   rw[hmax] at hk ⊢
   generalize 9999=m at hk ⊢
   split at h
   ·rename_i hd
    rw[conc_lit_iff] at hx;subst hx
    simp only[Instr.checkKey,Sem.run_bind,run_und hE hr w,Result.andThen_ok,hd]
    rfl
   ·rename_i hd
    rw[conc_lit_iff] at hx;subst hx
    simp only[Instr.checkKey,Sem.run_bind,run_und hE hr w,Result.andThen_ok,hd]
    rfl
   ·rename_i hd
    rw[conc_lit_iff] at hx;subst hx
    simp only[Instr.checkKey,Sem.run_bind,run_und hE hr w,Result.andThen_ok,hd]
    rfl
   ·rename_i n e l hd
    split at h
    ·rename_i q hq
     split at h
     ·rename_i hb
      rw[Bool.and_eq_true] at hb
      simp only[Conc] at hx
      obtain ⟨a,rfl,ha⟩:=hx
      have:∃xs:List Value,l=xs.map .lit:=fits_lits hb.2
      obtain ⟨xs,rfl⟩:=this
      have e1:=concs_lits_eq ha
      have:=hk q n e hq hd xs (by have:=Nat.eq_of_beq_eq_true hb.1;simpa using this)
      rw[←e1] at this
      simpa using this
     ·cases h
    ·cases h
   ·cases h
omit hE in
theorem findNow_ok{d:TypeDesc}{k:AV}{x:Value}(hx:Conc γ k x)(hn:∀n e,d≠.array n e):∀(es:List (AV×AV×Nat)) (es':List MapEntry) (i:Nat) (r:Option (Nat×AV)),EntRel γ es es'→findA d k es i=some r →
  ∃r',Instr.findNow d x es' i=some r'∧FindRel γ r r'
 | [],es',i,r,he,h=>by
   simp only[EntRel] at he
   subst he
   simp only[findA,Option.some.injEq] at h
   subst h
   exact ⟨none,rfl,tU⟩
 | (k',v,b)::es,es',i,r,he,h=>by
   simp only[EntRel] at he
   obtain ⟨kk,vv,rest,rfl,h1,h2,he⟩:=he
   simp only[findA] at h
   cases hk:keyEq d k k' with
   | none=>rw[hk] at h;cases h
   | some c=>
     rw[hk] at h
     have hs:Instr.sameNow d x kk=some c:=by
      unfold keyEq at hk
      split at hk
      ·rw[conc_lit_iff] at hx h1;subst hx h1;exact hk
      ·rw[conc_lit_iff] at hx h1;subst hx h1;exact hk
      ·rw[conc_lit_iff] at hx h1;subst hx h1;exact hk
      ·exact absurd rfl (hn _ _)
      ·cases hk
     simp only[Instr.findNow,hs]
     cases c with
     | true=>
       simp only[Option.some.injEq] at h
       subst h
       exact ⟨some (i,vv),rfl,rfl,h2⟩
     | false=>exact findNow_ok hx hn es rest (i+1) r he h
theorem findAsking_ok{t:TypeId}{r:TyRow}{n:Nat}{e:TypeId}(hr:E.ty t=some r)(hd:r.und=.array n e)(m:Nat)(hm:r.flat=some m){l:List AV}{x:Array Value}(hx:Concs γ l x.toList)(hl:l.length=m)(hkd:fits r.kinds l=true)
  (hel:∀(l':List AV) c,flatEq l l'=some c→l'.length=m):∀(es:List (AV×AV×Nat)) (es':List MapEntry) (i:Nat) (q:Option (Nat×AV)),EntRel γ es es'→findA (.array n e) (.agg l) es i=some q →
  ∃r',(Instr.findAsking t (.agg x) es' i).run P w=.ok r' w∧FindRel γ q r'
 | [],es',i,q,he,h=>by
   simp only[EntRel] at he
   subst he
   simp only[findA,Option.some.injEq] at h
   subst h
   exact ⟨none,rfl,tU⟩
 | (k',v,b)::es,es',i,q,he,h=>by
   simp only[EntRel] at he
   obtain ⟨kk,vv,rest,rfl,h1,h2,he⟩:=he
   simp only[findA] at h
   cases hk:keyEq (.array n e) (.agg l) k' with
   | none=>rw[hk] at h;cases h
   | some c=>
     rw[hk] at h
     have hs:(Op.equal t (.agg x) kk).run P w=.ok c w:=by
      unfold keyEq at hk
      split at hk
      ·rename_i heq _;cases heq
      ·rename_i heq _;cases heq
      ·rename_i heq _;cases heq
      ·rename_i l1 l2 _ heq
       simp only[AV.agg.injEq] at heq
       subst heq
       simp only[Conc] at h1
       obtain ⟨y,rfl,hy⟩:=h1
       exact flat_ok hE hr hm hl (hel _ _ hk) hkd hk hx hy
      ·cases hk
     simp only[Instr.findAsking,Sem.run_bind,hs,Result.andThen_ok]
     cases c with
     | true=>
       simp only[Option.some.injEq] at h
       subst h
       exact ⟨some (i,vv),rfl,rfl,h2⟩
     | false=>
       simp only[Bool.false_eq_true,if_false]
       exact findAsking_ok hr hd m hm hx hl hkd hel es rest (i+1) q he h
omit hE in
theorem flatEq_length:∀{l m:List AV} {b:Bool},flatEq l m=some b→m.length=l.length:=by
 intro l m b h
 obtain ⟨⟨xs,rfl⟩,ys,rfl⟩:=flatEq_lits h
 induction xs generalizing ys b with
 | nil=>cases ys with
   | nil=>rfl
   | cons y ys=>simp[flatEq] at h
 | cons x xs ih=>cases ys with
   | nil=>simp[flatEq] at h
   | cons y ys=>
     simp only[List.map_cons,flatEq] at h
     split at h
     ·rename_i hy
      simpa using ih ys hy
     ·cases h
theorem findKey_ok{t:TypeId}{k:AV}{d:TypeDesc}{x:Value}(h:keyTy E t k=some d)(hx:Conc γ k x){es:List (AV×AV×Nat)}{es':List MapEntry}{q:Option (Nat×AV)}(he:EntRel γ es es')
  (hf:findA d k es 0=some q):∃r',(Instr.findKey t x es').run P w=.ok r' w∧FindRel γ q r':=by
 unfold keyTy at h
 cases hr:E.ty t with
 | none=>rw[hr] at h;cases h
 | some r=>
   rw[hr] at h
   simp only[] at h
   unfold Instr.findKey
   simp only[Sem.run_bind,run_und hE hr w,Result.andThen_ok]
   have plain:r.und=d→(∀n e,d≠.array n e)→∃r',Sem.run P (match Instr.findNow r.und x es' 0 with
     | some r=>pure r
     | none=>Instr.findAsking t x es') w=.ok r' w∧FindRel γ q r':=by
    intro hd hn
    obtain ⟨r',h1,h2⟩:=findNow_ok hx hn es es' 0 q he hf
    rw[hd,h1]
    exact ⟨r',rfl,h2⟩
   split at h
   ·rename_i hd
    simp only[Option.some.injEq] at h
    exact plain (hd.trans h) (by intro n e he;rw[←h] at he;cases he)
   ·rename_i hd
    simp only[Option.some.injEq] at h
    exact plain (hd.trans h) (by intro n e he;rw[←h] at he;cases he)
   ·rename_i hd
    simp only[Option.some.injEq] at h
    exact plain (hd.trans h) (by intro n e he;rw[←h] at he;cases he)
   ·rename_i n e l hd
    split at h
    ·rename_i m hm
     split at h
     ·rename_i hb
      rw[Bool.and_eq_true] at hb
      simp only[Option.some.injEq] at h
      subst h
      simp only[Conc] at hx
      obtain ⟨a,rfl,ha⟩:=hx
      have hl:=Nat.eq_of_beq_eq_true hb.1
      obtain ⟨r',h1,h2⟩:=findAsking_ok hE (w:=w) hr hd m hm ha hl hb.2 (fun l' c hc=>by rw[flatEq_length hc,hl]) es es' 0 q he hf
      cases es with
      | nil=>
        simp only[EntRel] at he
        subst he
        simp only[findA,Option.some.injEq] at hf
        subst hf
        exact ⟨none,rfl,tU⟩
      | cons e0 es=>
        obtain ⟨k0,v0,b0⟩:=e0
        simp only[EntRel] at he
        obtain ⟨kk,vv,rest,rfl,he1,he2,he⟩:=he
        have:Instr.findNow r.und (.agg a) (⟨kk,vv,b0⟩::rest) 0=none:=by
         rw[hd]
         simp only[Instr.findNow,Instr.sameNow]
        rw[this]
        exact ⟨r',h1,h2⟩
     ·cases h
    ·cases h
   ·cases h
omit hE in
theorem findA_born{d:TypeDesc}{k:AV}:∀(es fs:List (AV×AV×Nat)) (i:Nat),es.map (fun e=>(e.1,e.2.1))=fs.map (fun e=>(e.1,e.2.1))→findA d k es i=findA d k fs i
 | [],[],i,_=>rfl
 | [],_::_,i,h=>by simp at h
 | _::_,[],i,h=>by simp at h
 | (a,b,c)::es,(a',b',c')::fs,i,h=>by
   simp only[List.map_cons,List.cons.injEq,Prod.mk.injEq] at h
   obtain ⟨⟨rfl,rfl⟩,h⟩:=h
   simp only[findA,findA_born es fs (i+1) h]
omit hE in
theorem entRel_esM(γ:Gam):∀l:List MapEntry,EntRel γ (l.map fun e=>(ofValue e.key,ofValue e.val,e.born)) l∧(l.map fun e=>(ofValue e.key,ofValue e.val,e.born)).map (fun e=>(e.1,e.2.1))=l.map fun e=>(ofValue e.key,ofValue e.val)
 | []=>⟨rfl,rfl⟩
 | e::l=>by
   obtain ⟨h1,h2⟩:=entRel_esM γ l
   refine ⟨?_,by simp[h2]⟩
   simp only[List.map_cons,EntRel]
   exact ⟨e.key,e.val,l,rfl,conc_ofValue γ _,conc_ofValue γ _,h1⟩
omit hE in
theorem mapEs_ok(hR:Rel γ σ w){x:AV}{y:Value}{es:List (AV×AV×Nat)}(h:mapEs σ x=some es)(hx:Conc γ x y) :
  (y=.map none∧es=[])∨(∃r es' clock es2,y=.map (some r)∧w.heap[r]?=some (.map es' clock)∧EntRel γ es2 es'.toList∧es2.map (fun e=>(e.1,e.2.1))=es.map (fun e=>(e.1,e.2.1))):=by
 unfold mapEs at h
 split at h
 ·rw[conc_lit_iff] at hx
  simp only[Option.some.injEq] at h
  exact .inl ⟨hx,h.symm⟩
 ·rename_i o
  split at h
  ·rename_i es0 clock hg
   simp only[Option.some.injEq] at h
   subst h
   simp only[Conc] at hx
   obtain ⟨r,rfl,hr⟩:=hx
   obtain ⟨p,hp,es',hb,he⟩:=hR.find hg (by simp) hr.ne
   rw[hr.at hp]
   exact .inr ⟨_,es',clock,_,rfl,hb,he,rfl⟩
  ·rename_i es0 hg
   simp only[Option.some.injEq] at h
   subst h
   simp only[Conc] at hx
   obtain ⟨r,rfl,hr⟩:=hx
   obtain ⟨p,hp,es',clock,hb,he,_⟩:=hR.find hg (by simp) hr.ne
   rw[hr.at hp]
   obtain ⟨h1,h2⟩:=entRel_esM γ es'.toList
   exact .inr ⟨_,es',clock,_,rfl,hb,h1,by rw[h2,←he];simp[esM]⟩
  ·cases h
 ·cases h
theorem lookup_ok(hR:Rel γ σ w){t:TypeId}{x k v:AV}{ok:Bool}(h:lookupA E σ t x k ok=some v){x' k':Value}(hx:Conc γ x x')(hk:Conc γ k k') :
  ∃y,(Instr.lookup t x' k' ok).run P w=.ok y w∧Conc γ v y:=by
 unfold lookupA at h
 cases hr:E.ty t with
 | none=>rw[hr] at h;cases h
 | some r=>
   rw[hr] at h
   simp only[] at h
   split at h
   ·rename_i kt et hd
    split at h
    ·rename_i d es er hkt hes her
     have hck:=fun b=>checkKey_ok hE (w:=w) (b:=b) hkt hk
     have two:∀(a b:Value) (u v:AV),Conc γ u a→Conc γ v b→Conc γ (.tuple [u,v]) (.tuple #[a,b]):=by
      intro a b u v h1 h2
      simp only[Conc]
      exact ⟨_,rfl,by simp only[Concs];exact ⟨a,[b],rfl,h1,b,[],rfl,h2,rfl⟩⟩
     unfold Instr.lookup
     simp only[Sem.run_bind,run_und hE hr w,Result.andThen_ok,hd]
     split at h
     ·rename_i j u hf
      simp only[Option.some.injEq] at h
      subst h
      rcases mapEs_ok hR hes hx with ⟨rfl,he⟩|⟨r0,es',clock,es2,rfl,hb,he,hk2⟩
      ·subst he
       simp[findA] at hf
      ·obtain ⟨r',h1,h2⟩:=findKey_ok hE (w:=w) hkt hk he ((findA_born es2 es 0 hk2).trans hf)
       cases r' with
       | none=>exact h2.elim
       | some r'=>
         have hg:(getObj r0).run P w=.ok (.map es' clock) w:=by simp[getObj,Sem.run,hb]
         simp only[Sem.run_bind,hg,hck,h1,Result.andThen_ok,Sem.run_pure]
         cases ok with
         | true=>exact ⟨_,rfl,two _ _ _ _ h2.2 (conc_lit γ _)⟩
         | false=>exact ⟨_,rfl,h2.2⟩
     ·rename_i hf
      split at h
      ·rename_i z hz
       simp only[Option.some.injEq] at h
       subst h
       have hzz:=conc_ofValue γ z
       rcases mapEs_ok hR hes hx with ⟨rfl,he⟩|⟨r0,es',clock,es2,rfl,hb,he,hk2⟩
       ·obtain ⟨r',h1,h2⟩:=findKey_ok hE (w:=w) (es':=[]) hkt hk (by rw[he];rfl) hf
        cases r' with
        | some r'=>exact h2.elim
        | none=>
          simp only[Sem.run_bind,hck,h1,Result.andThen_ok,Sem.run_pure,run_zero hE her w hz]
          cases ok with
          | true=>exact ⟨_,rfl,two _ _ _ _ hzz (conc_lit γ _)⟩
          | false=>exact ⟨_,rfl,hzz⟩
       ·obtain ⟨r',h1,h2⟩:=findKey_ok hE (w:=w) hkt hk he ((findA_born es2 es 0 hk2).trans hf)
        cases r' with
        | some r'=>exact h2.elim
        | none=>
          have hg:(getObj r0).run P w=.ok (.map es' clock) w:=by simp[getObj,Sem.run,hb]
          simp only[Sem.run_bind,hg,hck,h1,Result.andThen_ok,Sem.run_pure,run_zero hE her w hz]
          cases ok with
          | true=>exact ⟨_,rfl,two _ _ _ _ hzz (conc_lit γ _)⟩
          | false=>exact ⟨_,rfl,hzz⟩
      ·cases h
     ·cases h
    ·cases h
   ·cases h
end
end Go.Proofs.YtmbdghclhpboaaaGreat.Ev
namespace Go.Proofs.YtmbdghclhpboaaaGreat.Ev
section
variable{P:Program}{E:Env}(hE:EnvOk P E){γ:Gam}{σ:AS}{w:World}
include hE
theorem len_ok(hR:Rel γ σ w){t:TypeId}{x v:AV}(h:lenA E σ t x=some v){y:Value}(hx:Conc γ x y){ts:Array TypeId}{ty:TypeId}{ys:Array Value}(ht:ts[0]?=some t)(hy:ys[0]?=some y) :
  ∃u,(Builtin.len_ ts ty ys).run P w=.ok u w∧Conc γ v u:=by
 unfold lenA at h
 cases hr:E.ty t with
 | none=>rw[hr] at h;cases h
 | some r=>
   rw[hr] at h
   simp only[] at h
   unfold Builtin.len_
   simp only[ht,hy,Sem.run_bind,run_und hE hr w,Result.andThen_ok]
   split at h
   ·rename_i hd
    rw[conc_lit_iff] at hx;subst hx
    simp only[Option.some.injEq] at h;subst h
    rw[hd]
    exact ⟨_,rfl,conc_lit γ _⟩
   ·rename_i hd
    simp only[Option.some.injEq] at h;subst h
    rw[hd]
    exact ⟨_,rfl,conc_lit γ _⟩
   ·rename_i hd
    simp only[Conc] at hx;obtain ⟨a,c,rfl,_⟩:=hx
    simp only[Option.some.injEq] at h;subst h
    rw[hd]
    exact ⟨_,rfl,conc_lit γ _⟩
   ·rename_i hd
    rw[conc_lit_iff] at hx;subst hx
    simp only[Option.some.injEq] at h;subst h
    rw[hd]
    exact ⟨_,rfl,conc_lit γ _⟩
   ·rename_i hd
    split at h
    ·rename_i es hes
     simp only[Option.some.injEq] at h;subst h
     rcases mapEs_ok hR hes hx with ⟨rfl,he⟩|⟨r0,es',clock,es2,rfl,hb,he,hk2⟩
     ·subst he
      rw[hd]
      exact ⟨_,rfl,conc_lit γ _⟩
     ·have hg:(getObj r0).run P w=.ok (.map es' clock) w:=by simp[getObj,Sem.run,hb]
      rw[hd]
      simp only[Sem.run_bind,hg,Result.andThen_ok,Sem.run_pure]
      refine ⟨_,rfl,?_⟩
      have:=entRel_length he
      rw[conc_lit_iff]
      have e2:es2.length=es.length:=by simpa using congrArg List.length hk2
      have e:es'.size=es.length:=by rw[←e2];simpa using this
      rw[e]
    ·cases h
   ·cases h
omit hE in
theorem first_all(hR:Rel γ σ w){size n:Nat}{x:AV}{l:List AV}(h:firstA σ size n x=some l){y:Value}(hx:Conc γ x y) :
  ∃cs:Array Value,(∀w':World,w'.heap=w.heap→(Builtin.firstCells size n y).run P w'=.ok cs w')∧Concs γ l cs.toList:=by
 unfold firstA at h
 split at h
 ·rename_i o off len cap
  simp only[Conc] at hx
  obtain ⟨a,c,rfl,ha,hlc,_⟩:=hx
  split at h
  ·simp only[Option.some.injEq] at h;subst h
   refine ⟨#[],fun w' _=>?_,by simp[Concs]⟩
   simp only[Builtin.firstCells,Nat.zero_mul]
   simpa using run_loadCells_list (P:=P) w' a [] (by simp)
  ·rename_i n
   split at h
   ·rename_i l0 elem hg
    split at h
    ·rename_i hle
     rw[Bool.and_eq_true] at hle
     have hnl:=Nat.le_of_ble_eq_true hle.2
     replace hle:=Nat.le_of_ble_eq_true hle.1
     simp only[Option.some.injEq] at h
     subst h
     have ha:atP γ o off a:=ha.resolve_left (by omega)
     simp only[Builtin.firstCells]
     rw[show n.succ=n+1 from rfl]
     obtain ⟨p,hp,cc,hb,hs,hl,hcs⟩:=hR.find hg (by simp) ha.ne
     obtain rfl:=ha.at hp
     generalize (n+1) * size=k at hle ⊢
     have hlen:((cc.toList.drop (p.base+off)).take k).length=k:=by simp;omega
     have hrun:=fun (w':World) (hw':w'.heap=w.heap)=>run_loadCells_list (P:=P) w' ⟨p.block,p.base+off,none⟩ ((cc.toList.drop (p.base+off)).take k) (by
      intro j u hu
      rw[addr_add]
      have hj:j<k:=by
       have:=(List.getElem?_eq_some_iff.1 hu).1
       rw[hlen] at this;exact this
      rw[List.getElem?_take,if_pos hj,List.getElem?_drop] at hu
      simp only[World.cell?,hw',hb,Option.isSome_none,Bool.false_eq_true,if_false]
      simpa using hu)
     rw[hlen] at hrun
     refine ⟨_,hrun,?_⟩
     simp only[]
     refine concs_of (by rw[hlen];simp;omega) fun i u hu=>?_
     rw[List.getElem?_take] at hu
     split at hu
     ·rename_i hi
      rw[List.getElem?_drop] at hu
      obtain ⟨x,hx,hcx⟩:=hcs _ u hu
      refine ⟨x,?_,hcx⟩
      rw[List.getElem?_take,if_pos hi,List.getElem?_drop,Nat.add_assoc]
      simpa using hx
     ·simp at hu
    ·cases h
   ·cases h
 ·rw[conc_lit_iff] at hx;subst hx
  simp only[Option.some.injEq] at h;subst h
  exact ⟨#[],fun _ _=>rfl,by simp[Concs]⟩
 ·rename_i s
  rw[conc_lit_iff] at hx;subst hx
  simp only[Option.some.injEq] at h;subst h
  refine ⟨_,fun _ _=>rfl,?_⟩
  have e:((s.extract 0 n).data.map fun b=>Value.int .u8 b.toNat).toList=(s.data.toList.take n).map fun b=>Value.int .u8 b.toNat:=by
   rw[Array.toList_map]
   congr 1
   simp[ByteArray.data_extract]
  rw[e]
  have:=concs_lits γ ((s.data.toList.take n).map fun b=>Value.int .u8 b.toNat)
  rw[List.map_map] at this
  exact this
 ·cases h
omit hE in
theorem first_ok(hR:Rel γ σ w){size n:Nat}{x:AV}{l:List AV}(h:firstA σ size n x=some l){y:Value}(hx:Conc γ x y) :
  ∃cs:Array Value,(Builtin.firstCells size n y).run P w=.ok cs w∧Concs γ l cs.toList:=by
 obtain ⟨cs,h1,h2⟩:=first_all (P:=P) hR h hx
 exact ⟨cs,h1 w rfl,h2⟩
omit hE in
theorem pushBytes_ok:∀(l:List AV) (s s':ByteArray),pushBytes l s=some s'→∃ns:List Int,l=ns.map (fun n=>.lit (.int .u8 n))∧s'=ns.foldl (fun r n=>r.push (UInt8.ofNat n.toNat)) s
 | [],s,s',h=>by simp only[pushBytes,Option.some.injEq] at h;exact ⟨[],rfl,h.symm⟩
 | v::l,s,s',h=>by
   unfold pushBytes at h
   split at h
   ·rename_i heq;cases heq
   ·rename_i n l' heq
    cases heq
    obtain ⟨ns,rfl,e⟩:=pushBytes_ok _ _ _ h
    exact ⟨n::ns,rfl,e⟩
   ·cases h
theorem conv_ok(hR:Rel γ σ w){src dst:TypeId}{x v:AV}(h:convA E σ src dst x=some (.pure v)∨convA E σ src dst x=some (.read v)){y:Value}(hx:Conc γ x y) :
  ∃u,(convert src dst y).run P w=.ok u w∧Conc γ v u:=by
 replace h:∃out,convA E σ src dst x=some out∧(out=.pure v∨out=.read v):=by
  rcases h with h|h
  ·exact ⟨_,h,.inl rfl⟩
  ·exact ⟨_,h,.inr rfl⟩
 obtain ⟨out,h,ho⟩:=h
 unfold convA at h
 split at h
 ·rename_i sr dr hs hd
  unfold convert
  simp only[Sem.run_bind,run_und hE hs w,run_und hE hd w,Result.andThen_ok]
  split at h
  ·rename_i k k0 n hdd
   simp only[Option.some.injEq] at h;subst h
   obtain rfl:v=_:=by rcases ho with e|e<;>cases e;rfl
   rw[conc_lit_iff] at hx;subst hx
   rw[hdd]
   exact ⟨_,rfl,conc_lit γ _⟩
  ·rename_i s hdd
   simp only[Option.some.injEq] at h;subst h
   obtain rfl:v=_:=by rcases ho with e|e<;>cases e;rfl
   rw[conc_lit_iff] at hx;subst hx
   rw[hdd]
   exact ⟨_,rfl,conc_lit γ _⟩
  ·rename_i hdd _
   split at h
   ·rename_i e hsd
    split at h
    ·rename_i er her
     split at h
     ·rename_i hed
      split at h
      ·simp only[Option.some.injEq] at h;subst h
       obtain rfl:v=_:=by rcases ho with e|e<;>cases e;rfl
       rw[conc_lit_iff] at hx;subst hx
       refine ⟨.string .empty,?_,conc_lit γ _⟩
       rw[hsd,hdd]
       simp only[Sem.run_bind,run_und hE her w,Result.andThen_ok,hed]
       rfl
      ·split at h
       ·rename_i l hl
        obtain ⟨s,hps,rfl⟩:=Option.map_eq_some_iff.1 h
        obtain rfl:v=_:=by rcases ho with e|e<;>cases e;rfl
        have hx':=hx
        simp only[Conc] at hx
        obtain ⟨a,c,rfl,_⟩:=hx
        obtain ⟨cs,hrun,hcs⟩:=first_ok hR hl hx'
        obtain ⟨ns,rfl,rfl⟩:=pushBytes_ok _ _ _ hps
        refine ⟨_,?_,conc_lit γ _⟩
        rw[hsd,hdd]
        simp only[Sem.run_bind,run_und hE her w,Result.andThen_ok,hed]
        refine run_bytesToString w _ _ _ ns ?_
        have e1:cs.toList=ns.map (Value.int .u8):=by
         have:=concs_lits_eq (γ:=γ) (xs:=ns.map (Value.int .u8)) (ys:=cs.toList) (by rw[List.map_map];exact hcs)
         exact this
        simp only[Builtin.firstCells,Nat.mul_one] at hrun
        rw[hrun,←e1]
       ·cases h
      ·cases h
     ·cases h
    ·cases h
   ·cases h
  ·cases h
 ·cases h
omit hE in
theorem minmaxFrom_ok{f:Value→Value→Sem Value}:∀(l:List AV) (v u:AV) (x:Value) (xs:List Value),minmaxFrom f v l=some u→Conc γ v x→Concs γ l xs→∃y,(xs.foldlM f x).run P w=.ok y w∧Conc γ u y
 | [],v,u,x,xs,h,hx,hl=>by
   simp only[Concs] at hl;subst hl
   simp only[minmaxFrom,Option.some.injEq] at h;subst h
   exact ⟨x,rfl,hx⟩
 | a::l,v,u,x,xs,h,hx,hl=>by
   unfold minmaxFrom at h
   split at h
   ·rename_i heq;cases heq
   ·rename_i k n k' m rest heq
    cases heq
    simp only[Concs] at hl
    obtain ⟨y,ys,rfl,hy,hl⟩:=hl
    rw[conc_lit_iff] at hx hy;subst hx hy
    split at h
    ·rename_i z hz
     obtain ⟨c,hc,rfl⟩:=semVal_some hz
     obtain ⟨y,h1,h2⟩:=minmaxFrom_ok _ _ _ c ys h (conc_lit γ c) hl
     refine ⟨y,?_,h2⟩
     simp only[List.foldlM_cons,Sem.run_bind,hc,Sem.run_pure',Result.andThen_ok,h1]
    ·cases h
   ·cases h
omit hE in
theorem entry_ok(hR:Rel γ σ w){it v:AV}(h:entryA σ it=some v){y:Value}(hx:Conc γ it y):∃u,(Instr.entry y).run P w=.ok u w∧Conc γ v u:=by
 unfold entryA at h
 split at h
 ·rename_i r0
  split at h
  ·rename_i m since seen stepped hg
   split at h
   ·rename_i stamp es clock hst hm
    split at h
    ·rename_i k u b hck hfind
     simp only[Option.some.injEq] at h;subst h
     simp only[Conc] at hx
     obtain ⟨a,rfl,ha⟩:=hx
     obtain ⟨p,hp,hb0,rr,hb,hmr⟩:=hR.find hg (by simp) ha.ne
     obtain rfl:=ha.at hp
     obtain ⟨q,hq,es',hbm,he⟩:=hR.find hm (by simp) hmr.ne
     obtain rfl:=hmr.at hq
     have hg1:(getObj p.block).run P w=.ok (.mapIter (some q.block) since seen.toArray stepped) w:=by simp[getObj,Sem.run,hb]
     have hg2:(getObj q.block).run P w=.ok (.map es' clock) w:=by simp[getObj,Sem.run,hbm]
     have hback:seen.toArray.back?=some stamp:=by simpa using hst
     have hckk:=Nat.eq_of_beq_eq_true hck
     have hf:∀(es:List (AV×AV×Nat)) (es':List MapEntry),EntRel γ es es'→es.find? (fun e=>Nat.beq e.2.2 stamp)=some (k,u,b)→∃k' u',es'.find? (·.born==stamp)=some ⟨k',u',b⟩∧Conc γ k k'∧Conc γ u u':=by
      intro es
      induction es with
      | nil=>intro es' _ h;simp at h
      | cons e es ih=>
        intro es' he h
        obtain ⟨k0,v0,b0⟩:=e
        simp only[EntRel] at he
        obtain ⟨k',v',rest,rfl,h1,h2,he⟩:=he
        rw[List.find?_cons] at h ⊢
        simp only[] at h ⊢
        cases hb:Nat.beq b0 stamp with
        | true=>
          have:=Nat.eq_of_beq_eq_true hb
          subst this
          rw[hb] at h
          simp only[Option.some.injEq,Prod.mk.injEq] at h
          obtain ⟨rfl,rfl,rfl⟩:=h
          exact ⟨k',v',by simp,h1,h2⟩
        | false=>
          have:=Nat.ne_of_beq_eq_false hb
          rw[hb] at h
          simp only[] at h
          have hne:(b0==stamp)=false:=by simpa using this
          rw[hne]
          exact ih _ he h
     obtain ⟨k',u',hf',hk',hu'⟩:=hf es es'.toList he hfind
     have hf'':es'.find? (·.born==stamp)=some ⟨k',u',b⟩:=by rw[←Array.find?_toList];exact hf'
     unfold Instr.entry
     rw[hb0]
     simp only[Sem.run_bind,hg1,Result.andThen_ok,hback,hg2,hckk,hf'']
     refine ⟨.tuple #[k',u'],?_,?_⟩
     ·simp
     ·simp only[Conc]
      exact ⟨_,rfl,by simp only[Concs];exact ⟨k',[u'],rfl,hk',u',[],rfl,hu',rfl⟩⟩
    ·cases h
   ·cases h
  ·cases h
 ·cases h
theorem slice_ok{t:TypeId}{x v:AV}{lo hi mx:Option AV}(h:sliceA E t x lo hi mx=some v){x':Value}{lo' hi' mx':Option Value}(hx:Conc γ x x')(h1:OptRel γ lo lo')(h2:OptRel γ hi hi')(h3:OptRel γ mx mx') :
  ∃u,(Instr.sliceAt t x' lo' hi' mx').run P w=.ok u w∧Conc γ v u:=by
 unfold sliceA at h
 cases hr:E.ty t with
 | none=>rw[hr] at h;cases h
 | some r=>
   rw[hr] at h
   simp only[] at h
   unfold Instr.sliceAt
   simp only[Sem.run_bind,run_und hE hr w,Result.andThen_ok]
   have hatp:∀{o off s:Nat} {a:Addr} {l:Nat},atP γ o off a→atP γ o (off+l * s) (a.add (l * s)):=by
    intro o off s a l ha
    unfold atP at ha ⊢
    cases hg:γ o with
    | none=>rw[hg] at ha;exact ha.elim
    | some q=>
      rw[hg] at ha
      cases q with
      | none=>trivial
      | some p=>simp only[] at ha ⊢;rw[ha,addr_add,Nat.add_assoc]
   have htopp:∀{o n m:Nat},topP γ o n→m≤n→topP γ o m:=by
    intro o n m h hm
    unfold topP at h ⊢
    cases hg:γ o with
    | none=>rw[hg] at h;exact h.elim
    | some q=>
      rw[hg] at h
      cases q with
      | none=>trivial
      | some p=>simp only[] at h ⊢;omega
   split at h
   ·rename_i n elem o off hd
    split at h
    ·rename_i er l hh m her hb
     simp only[Option.some.injEq] at h;subst h
     simp only[Conc] at hx
     obtain ⟨a,rfl,ha⟩:=hx
     obtain ⟨mm,hrun,hlh,hm,hhm,hmc⟩:=bounds_ok (P:=P) (w:=w) (isSlice:=false) (c:=n) hb (.inl rfl) (Nat.le_refl _) h1 h2 h3
     obtain rfl:mm=m:=by
      rcases hm with ⟨k,e,rfl⟩|⟨e,_⟩
      ·cases e;rfl
      ·cases e
     rw[hd]
     simp only[Instr.sureAddr,Sem.run_bind,Sem.run_pure,Result.andThen_ok,hrun,run_size hE her w]
     refine ⟨_,rfl,?_⟩
     simp only[Conc]
     refine ⟨_,_,rfl,?_,by omega,rfl⟩
     by_cases hml:mm=l
     ·exact .inl (by omega)
     ·rw[if_neg hml];exact .inr (hatp ha)
    ·cases h
   ·rename_i elem o off len cap hd
    split at h
    ·rename_i er l hh m her hb
     obtain ⟨cap',hcap,rfl⟩:=Option.map_eq_some_iff.1 h
     simp only[Conc] at hx
     obtain ⟨a,c,rfl,ha,hlc,hcc⟩:=hx
     have hck:cap.known=some c∨(cap.known=none∧len≤c):=by
      cases cap with
      | k n=>simp only[] at hcc;subst hcc;exact .inl rfl
      | grown s=>exact .inr ⟨rfl,hlc⟩
     obtain ⟨mm,hrun,hlh,hm,hhm,hmc⟩:=bounds_ok (P:=P) (w:=w) (isSlice:=true) hb hck hlc h1 h2 h3
     rw[hd]
     simp only[Instr.slice,Sem.run_bind,run_und hE hr w,hd,Result.andThen_ok,hrun,run_size hE her w,Sem.run_pure]
     have hsl:(if mm=l then some a else Option.map (fun x=>x.add (l * er.info.size)) (some a))=some (if mm=l then a else a.add (l * er.info.size)):=by
      split<;>rfl
     rw[hsl]
     refine ⟨_,rfl,?_⟩
     simp only[Conc]
     refine ⟨_,_,rfl,?_,by omega,?_⟩
     ·by_cases hml:mm=l
      ·exact .inl (by omega)
      ·rw[if_neg hml]
       refine .inr (hatp (ha.resolve_left ?_))
       omega
     ·unfold capAfter at hcap
      split at hcap
      ·simp only[Option.some.injEq] at hcap
       subst hcap
       rcases hm with ⟨k,e,rfl⟩|⟨e,_⟩
       ·cases e;rfl
       ·cases e
      ·split at hcap
       ·rename_i s
        split at hcap
        ·rename_i hs
         simp only[Option.some.injEq] at hcap
         subst hcap
         rcases hm with ⟨k,e,_⟩|⟨_,_,rfl⟩
         ·cases e
         ·simp only[] at hcc ⊢
          have:=Nat.eq_of_beq_eq_true hs
          subst this
          refine htopp hcc ?_
          rw[Nat.sub_mul]
          have:=Nat.mul_le_mul_right er.info.size (Nat.le_trans hlh hhm)
          omega
        ·cases hcap
       ·cases hcap
    ·cases h
   ·rename_i elem len cap hd
    split at h
    ·rename_i er l hh m her hb hle
     simp only[Option.some.injEq] at h;subst h
     rw[conc_lit_iff] at hx;subst hx
     obtain ⟨mm,hrun,hlh,hm,hhm,hmc⟩:=bounds_ok (P:=P) (w:=w) (isSlice:=true) hb (.inl rfl) (Nat.le_of_ble_eq_true hle) h1 h2 h3
     obtain rfl:mm=m:=by
      rcases hm with ⟨k,e,rfl⟩|⟨e,_⟩
      ·cases e;rfl
      ·cases e
     rw[hd]
     simp only[Instr.slice,Sem.run_bind,run_und hE hr w,hd,Result.andThen_ok,hrun,run_size hE her w,Sem.run_pure]
     refine ⟨_,rfl,?_⟩
     rw[conc_lit_iff]
     congr 1
     split<;>rfl
    ·cases h
   ·rename_i s hd
    split at h
    ·rename_i l hh m hb
     simp only[Option.some.injEq] at h;subst h
     rw[conc_lit_iff] at hx;subst hx
     cases mx' with
     | some _=>exact h3.elim
     | none=>
       obtain ⟨mm,hrun,hlh,hm,hhm,hmc⟩:=bounds_ok (P:=P) (w:=w) (isSlice:=false) (mx':=none) hb (.inl rfl) (Nat.le_refl _) h1 h2 trivial
       rw[hd]
       simp only[Instr.slice,Sem.run_bind,run_und hE hr w,hd,Result.andThen_ok,hrun,Sem.run_pure,Option.isSome_none,Bool.false_eq_true,if_false]
       exact ⟨_,rfl,conc_lit γ _⟩
    ·cases h
   ·cases h
end
end Go.Proofs.YtmbdghclhpboaaaGreat.Ev
