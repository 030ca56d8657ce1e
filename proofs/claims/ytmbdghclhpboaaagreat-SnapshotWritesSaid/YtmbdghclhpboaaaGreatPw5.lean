/- Part of the proof: EvH. Conditions: as each states. -/
import Derived.Test.YtmbdghclhpboaaaGreatPw4
set_option linter.all false
namespace Go.Proofs.YtmbdghclhpboaaaGreat.Ev
def rC(γ:aK):Option (Nat×AV)->Option (Nat×Value)->Prop
 | none,none=>True
 | some (j,v),some (j',v')=>j=j'/\an γ v v'
 | _,_=>False
theorem As:∀{ks:List Nat} {l:List AV},fits ks l=true->∃xs:List Value,l=xs.map .lit
 | [],[],_=>⟨[],rfl⟩
 | [],_::_,h=>by simp[fits] at h
 | _::_,[],h=>by simp[fits] at h
 | k::ks,v::l,h=>by
   cases v with
   | lit u=>
     simp only[fits,Bool.and_eq_true] at h;obtain ⟨xs,rfl⟩:=As h.2;exact ⟨u::xs,rfl⟩
   | _=>simp[fits] at h
section
variable{P:Program}{E:Env}(hE:ch P E){γ:aK}{σ:AS}{w:World}
include hE
theorem fA{t:TypeId}{k:AV}{d:TypeDesc}{x:Value}{b:Bool}(h:lu E t k=some d)(hx:an γ k x):(Instr.checkKey b 10000 t x).run P w=.ok () w:=by
 unfold lu at h;cases hr:E.ty t with
 | none=>rw[hr] at h;cases h
 | some r=>
   rw[hr] at h;simp only[] at h;have hk:=fun n k e (h1:r.flat=some n) (h2:r.bg=.array k e) xs=>hE.key t r n k e hr h1 h2 xs b w;have we:(10000:Nat)=9999+1:=rfl;rw[we] at hk ⊢;generalize 9999=m at hk ⊢;split at h
   ·rename_i hd;rw[al] at hx;subst hx;simp only[Instr.checkKey,Sem.run_bind,ba hE hr w,Result.andThen_ok,hd];rfl
   ·rename_i hd;rw[al] at hx;subst hx;simp only[Instr.checkKey,Sem.run_bind,ba hE hr w,Result.andThen_ok,hd];rfl
   ·rename_i hd;rw[al] at hx;subst hx;simp only[Instr.checkKey,Sem.run_bind,ba hE hr w,Result.andThen_ok,hd];rfl
   ·rename_i n e l hd;split at h
    ·rename_i q hq;split at h
     ·rename_i hb;rw[Bool.and_eq_true] at hb;simp only[an] at hx;obtain ⟨a,rfl,ha⟩:=hx;have:∃xs:List Value,l=xs.map .lit:=As hb.2;obtain ⟨xs,rfl⟩:=this;have e1:=fR ha;have:=hk q n e hq hd xs (by have:=Nat.eq_of_beq_eq_true hb.1;simpa using this);rw[<-e1] at this;simpa using this
     ·cases h
    ·cases h
   ·cases h
omit hE in
theorem yu{d:TypeDesc}{k:AV}{x:Value}(hx:an γ k x)(hn:∀n e,d≠.array n e):∀(es:List (AV×AV×Nat)) (es':List MapEntry) (i:Nat) (r:Option (Nat×AV)),aX γ es es'->dZ d k es i=some r ->
  ∃r',Instr.findNow d x es' i=some r'/\rC γ r r'
 | [],es',i,r,he,h=>by
   simp only[aX] at he;subst he;simp only[dZ,Option.some.injEq] at h;subst h;exact ⟨none,rfl,tU⟩
 | (k',v,b)::es,es',i,r,he,h=>by
   simp only[aX] at he;obtain ⟨kk,vv,rest,rfl,h1,h2,he⟩:=he;simp only[dZ] at h;cases hk:iO d k k' with
   | none=>rw[hk] at h;cases h
   | some c=>
     rw[hk] at h;have hs:Instr.sameNow d x kk=some c:=by
      unfold iO at hk;split at hk
      ·rw[al] at hx h1;subst hx h1;exact hk
      ·rw[al] at hx h1;subst hx h1;exact hk
      ·rw[al] at hx h1;subst hx h1;exact hk
      ·exact absurd rfl (hn _ _)
      ·cases hk
     simp only[Instr.findNow,hs];cases c with
     | true=>
       simp only[Option.some.injEq] at h;subst h;exact ⟨some (i,vv),rfl,rfl,h2⟩
     | false=>exact yu hx hn es rest (i+1) r he h
theorem rO{t:TypeId}{r:cZ}{n:Nat}{e:TypeId}(hr:E.ty t=some r)(hd:r.bg=.array n e)(m:Nat)(hm:r.flat=some m){l:List AV}{x:Array Value}(hx:az γ l x.toList)(hl:l.length=m)(GR:fits r.kinds l=true)
  (EG:∀(l':List AV) c,bn l l'=some c->l'.length=m):∀(es:List (AV×AV×Nat)) (es':List MapEntry) (i:Nat) (q:Option (Nat×AV)),aX γ es es'->dZ (.array n e) (.agg l) es i=some q ->
  ∃r',(Instr.findAsking t (.agg x) es' i).run P w=.ok r' w/\rC γ q r'
 | [],es',i,q,he,h=>by
   simp only[aX] at he;subst he;simp only[dZ,Option.some.injEq] at h;subst h;exact ⟨none,rfl,tU⟩
 | (k',v,b)::es,es',i,q,he,h=>by
   simp only[aX] at he;obtain ⟨kk,vv,rest,rfl,h1,h2,he⟩:=he;simp only[dZ] at h;cases hk:iO (.array n e) (.agg l) k' with
   | none=>rw[hk] at h;cases h
   | some c=>
     rw[hk] at h;have hs:(Op.equal t (.agg x) kk).run P w=.ok c w:=by
      unfold iO at hk;split at hk
      ·rename_i heq _;cases heq
      ·rename_i heq _;cases heq
      ·rename_i heq _;cases heq
      ·rename_i l1 l2 _ heq;simp only[AV.agg.injEq] at heq;subst heq;simp only[an] at h1;obtain ⟨y,rfl,hy⟩:=h1;exact Gt hE hr hm hl (EG _ _ hk) GR hk hx hy
      ·cases hk
     simp only[Instr.findAsking,Sem.run_bind,hs,Result.andThen_ok];cases c with
     | true=>
       simp only[Option.some.injEq] at h;subst h;exact ⟨some (i,vv),rfl,rfl,h2⟩
     | false=>
       simp only[Bool.false_eq_true,if_false];exact rO hr hd m hm hx hl GR EG es rest (i+1) q he h
omit hE in
theorem rR:∀{l m:List AV} {b:Bool},bn l m=some b->m.length=l.length:=by
 intro l m b h;obtain ⟨⟨xs,rfl⟩,ys,rfl⟩:=nh h;induction xs generalizing ys b with
 | nil=>cases ys with
   | nil=>rfl
   | cons y ys=>simp[bn] at h
 | cons x xs ih=>cases ys with
   | nil=>simp[bn] at h
   | cons y ys=>
     simp only[List.map_cons,bn] at h;split at h
     ·rename_i hy;simpa using ih ys hy
     ·cases h
theorem hZ{t:TypeId}{k:AV}{d:TypeDesc}{x:Value}(h:lu E t k=some d)(hx:an γ k x){es:List (AV×AV×Nat)}{es':List MapEntry}{q:Option (Nat×AV)}(he:aX γ es es')
  (hf:dZ d k es 0=some q):∃r',(Instr.findKey t x es').run P w=.ok r' w/\rC γ q r':=by
 unfold lu at h;cases hr:E.ty t with
 | none=>rw[hr] at h;cases h
 | some r=>
   rw[hr] at h;simp only[] at h;unfold Instr.findKey;simp only[Sem.run_bind,ba hE hr w,Result.andThen_ok];have plain:r.bg=d->(∀n e,d≠.array n e)->∃r',Sem.run P (match Instr.findNow r.bg x es' 0 with
     | some r=>pure r
     | none=>Instr.findAsking t x es') w=.ok r' w/\rC γ q r':=by
    intro hd hn;obtain ⟨r',h1,h2⟩:=yu hx hn es es' 0 q he hf;rw[hd,h1];exact ⟨r',rfl,h2⟩
   split at h
   ·rename_i hd;simp only[Option.some.injEq] at h;exact plain (hd.trans h) (by intro n e he;rw[<-h] at he;cases he)
   ·rename_i hd;simp only[Option.some.injEq] at h;exact plain (hd.trans h) (by intro n e he;rw[<-h] at he;cases he)
   ·rename_i hd;simp only[Option.some.injEq] at h;exact plain (hd.trans h) (by intro n e he;rw[<-h] at he;cases he)
   ·rename_i n e l hd;split at h
    ·rename_i m hm;split at h
     ·rename_i hb;rw[Bool.and_eq_true] at hb;simp only[Option.some.injEq] at h;subst h;simp only[an] at hx;obtain ⟨a,rfl,ha⟩:=hx;have hl:=Nat.eq_of_beq_eq_true hb.1;obtain ⟨r',h1,h2⟩:=rO hE (w:=w) hr hd m hm ha hl hb.2 (fun l' c hc=>by rw[rR hc,hl]) es es' 0 q he hf;cases es with
      | nil=>
        simp only[aX] at he;subst he;simp only[dZ,Option.some.injEq] at hf;subst hf;exact ⟨none,rfl,tU⟩
      | cons e0 es=>
        obtain ⟨k0,v0,b0⟩:=e0;simp only[aX] at he;obtain ⟨kk,vv,rest,rfl,Z1,QI,he⟩:=he;have:Instr.findNow r.bg (.agg a) (⟨kk,vv,b0⟩::rest) 0=none:=by
         rw[hd];simp only[Instr.findNow,Instr.sameNow]
        rw[this];exact ⟨r',h1,h2⟩
     ·cases h
    ·cases h
   ·cases h
omit hE in
theorem oO{d:TypeDesc}{k:AV}:∀(es fs:List (AV×AV×Nat)) (i:Nat),es.map (fun e=>(e.1,e.2.1))=fs.map (fun e=>(e.1,e.2.1))->dZ d k es i=dZ d k fs i
 | [],[],i,_=>rfl
 | [],_::_,i,h=>by simp at h
 | _::_,[],i,h=>by simp at h
 | (a,b,c)::es,(a',b',c')::fs,i,h=>by
   simp only[List.map_cons,List.cons.injEq,Prod.mk.injEq] at h;obtain ⟨⟨rfl,rfl⟩,h⟩:=h;simp only[dZ,oO es fs (i+1) h]
omit hE in
theorem rL(γ:aK):∀l:List MapEntry,aX γ (l.map fun e=>(ofValue e.key,ofValue e.val,e.born)) l/\(l.map fun e=>(ofValue e.key,ofValue e.val,e.born)).map (fun e=>(e.1,e.2.1))=l.map fun e=>(ofValue e.key,ofValue e.val)
 | []=>⟨rfl,rfl⟩
 | e::l=>by
   obtain ⟨h1,h2⟩:=rL γ l;refine ⟨?_,by simp[h2]⟩;simp only[List.map_cons,aX];exact ⟨e.key,e.val,l,rfl,cN γ _,cN γ _,h1⟩
omit hE in
theorem xJ(hR:Rel γ σ w){x:AV}{y:Value}{es:List (AV×AV×Nat)}(h:xI σ x=some es)(hx:an γ x y) :
  (y=.map none/\es=[])\/(∃r es' clock Gn,y=.map (some r)/\w.heap[r]?=some (.map es' clock)/\aX γ Gn es'.toList/\Gn.map (fun e=>(e.1,e.2.1))=es.map (fun e=>(e.1,e.2.1))):=by
 unfold xI at h;split at h
 ·rw[al] at hx;simp only[Option.some.injEq] at h;exact .inl ⟨hx,h.symm⟩
 ·rename_i o;split at h
  ·rename_i YH clock hg;simp only[Option.some.injEq] at h;subst h;simp only[an] at hx;obtain ⟨r,rfl,hr⟩:=hx;obtain ⟨p,hp,es',hb,he⟩:=hR.find hg (by simp) hr.ne;rw[hr.at hp];exact .inr ⟨_,es',clock,_,rfl,hb,he,rfl⟩
  ·rename_i YH hg;simp only[Option.some.injEq] at h;subst h;simp only[an] at hx;obtain ⟨r,rfl,hr⟩:=hx;obtain ⟨p,hp,es',clock,hb,he,_⟩:=hR.find hg (by simp) hr.ne;rw[hr.at hp];obtain ⟨h1,h2⟩:=rL γ es'.toList;exact .inr ⟨_,es',clock,_,rfl,hb,h1,by rw[h2,<-he];simp[tI]⟩
  ·cases h
 ·cases h
theorem Jy(hR:Rel γ σ w){t:TypeId}{x k v:AV}{ok:Bool}(h:wz E σ t x k ok=some v){x' k':Value}(hx:an γ x x')(hk:an γ k k') :
  ∃y,(Instr.lookup t x' k' ok).run P w=.ok y w/\an γ v y:=by
 unfold wz at h;cases hr:E.ty t with
 | none=>rw[hr] at h;cases h
 | some r=>
   rw[hr] at h;simp only[] at h;split at h
   ·rename_i kt et hd;split at h
    ·rename_i d es er iq qh fh;have Jc:=fun b=>fA hE (w:=w) (b:=b) iq hk;have two:∀(a b:Value) (u v:AV),an γ u a->an γ v b->an γ (.tuple [u,v]) (.tuple #[a,b]):=by
      intro a b u v h1 h2;simp only[an];exact ⟨_,rfl,by simp only[az];exact ⟨a,[b],rfl,h1,b,[],rfl,h2,rfl⟩⟩
     unfold Instr.lookup;simp only[Sem.run_bind,ba hE hr w,Result.andThen_ok,hd];split at h
     ·rename_i j u hf;simp only[Option.some.injEq] at h;subst h;rcases xJ hR qh hx with ⟨rfl,he⟩|⟨r0,es',clock,Gn,rfl,hb,he,kV⟩
      ·subst he;simp[dZ] at hf
      ·obtain ⟨r',h1,h2⟩:=hZ hE (w:=w) iq hk he ((oO Gn es 0 kV).trans hf);cases r' with
       | none=>exact h2.elim
       | some r'=>
         have hg:(getObj r0).run P w=.ok (.map es' clock) w:=by simp[getObj,Sem.run,hb]
         simp only[Sem.run_bind,hg,Jc,h1,Result.andThen_ok,Sem.run_pure];cases ok with
         | true=>exact ⟨_,rfl,two _ _ _ _ h2.2 (aM γ _)⟩
         | false=>exact ⟨_,rfl,h2.2⟩
     ·rename_i hf;split at h
      ·rename_i z hz;simp only[Option.some.injEq] at h;subst h;have LX:=cN γ z;rcases xJ hR qh hx with ⟨rfl,he⟩|⟨r0,es',clock,Gn,rfl,hb,he,kV⟩
       ·obtain ⟨r',h1,h2⟩:=hZ hE (w:=w) (es':=[]) iq hk (by rw[he];rfl) hf;cases r' with
        | some r'=>exact h2.elim
        | none=>
          simp only[Sem.run_bind,Jc,h1,Result.andThen_ok,Sem.run_pure,ma hE fh w hz];cases ok with
          | true=>exact ⟨_,rfl,two _ _ _ _ LX (aM γ _)⟩
          | false=>exact ⟨_,rfl,LX⟩
       ·obtain ⟨r',h1,h2⟩:=hZ hE (w:=w) iq hk he ((oO Gn es 0 kV).trans hf);cases r' with
        | some r'=>exact h2.elim
        | none=>
          have hg:(getObj r0).run P w=.ok (.map es' clock) w:=by simp[getObj,Sem.run,hb]
          simp only[Sem.run_bind,hg,Jc,h1,Result.andThen_ok,Sem.run_pure,ma hE fh w hz];cases ok with
          | true=>exact ⟨_,rfl,two _ _ _ _ LX (aM γ _)⟩
          | false=>exact ⟨_,rfl,LX⟩
      ·cases h
     ·cases h
    ·cases h
   ·cases h
end
end Go.Proofs.YtmbdghclhpboaaaGreat.Ev
namespace Go.Proofs.YtmbdghclhpboaaaGreat.Ev
section
variable{P:Program}{E:Env}(hE:ch P E){γ:aK}{σ:AS}{w:World}
include hE
theorem Re(hR:Rel γ σ w){t:TypeId}{x v:AV}(h:Oy E σ t x=some v){y:Value}(hx:an γ x y){ts:Array TypeId}{ty:TypeId}{ys:Array Value}(ht:ts[0]?=some t)(hy:ys[0]?=some y) :
  ∃u,(Builtin.len_ ts ty ys).run P w=.ok u w/\an γ v u:=by
 unfold Oy at h;cases hr:E.ty t with
 | none=>rw[hr] at h;cases h
 | some r=>
   rw[hr] at h;simp only[] at h;unfold Builtin.len_;simp only[ht,hy,Sem.run_bind,ba hE hr w,Result.andThen_ok];split at h
   ·rename_i hd;rw[al] at hx;subst hx;simp only[Option.some.injEq] at h;subst h;rw[hd];exact ⟨_,rfl,aM γ _⟩
   ·rename_i hd;simp only[Option.some.injEq] at h;subst h;rw[hd];exact ⟨_,rfl,aM γ _⟩
   ·rename_i hd;simp only[an] at hx;obtain ⟨a,c,rfl,_⟩:=hx;simp only[Option.some.injEq] at h;subst h;rw[hd];exact ⟨_,rfl,aM γ _⟩
   ·rename_i hd;rw[al] at hx;subst hx;simp only[Option.some.injEq] at h;subst h;rw[hd];exact ⟨_,rfl,aM γ _⟩
   ·rename_i hd;split at h
    ·rename_i es qh;simp only[Option.some.injEq] at h;subst h;rcases xJ hR qh hx with ⟨rfl,he⟩|⟨r0,es',clock,Gn,rfl,hb,he,kV⟩
     ·subst he;rw[hd];exact ⟨_,rfl,aM γ _⟩
     ·have hg:(getObj r0).run P w=.ok (.map es' clock) w:=by simp[getObj,Sem.run,hb]
      rw[hd];simp only[Sem.run_bind,hg,Result.andThen_ok,Sem.run_pure];refine ⟨_,rfl,?_⟩;have:=nP he;rw[al];have e2:Gn.length=es.length:=by simpa using congrArg List.length kV
      have e:es'.size=es.length:=by rw[<-e2];simpa using this
      rw[e]
    ·cases h
   ·cases h
omit hE in
theorem uO(hR:Rel γ σ w){size n:Nat}{x:AV}{l:List AV}(h:iS σ size n x=some l){y:Value}(hx:an γ x y) :
  ∃cs:Array Value,(∀w':World,w'.heap=w.heap->(Builtin.firstCells size n y).run P w'=.ok cs w')/\az γ l cs.toList:=by
 unfold iS at h;split at h
 ·rename_i o off len cap;simp only[an] at hx;obtain ⟨a,c,rfl,ha,tL,_⟩:=hx;split at h
  ·simp only[Option.some.injEq] at h;subst h;refine ⟨#[],fun w' _=>?_,by simp[az]⟩;simp only[Builtin.firstCells,Nat.zero_mul];simpa using run_loadCells_list (P:=P) w' a [] (by simp)
  ·rename_i n;split at h
   ·rename_i l0 elem hg;split at h
    ·rename_i hle;rw[Bool.and_eq_true] at hle;have QV:=Nat.le_of_ble_eq_true hle.2;replace hle:=Nat.le_of_ble_eq_true hle.1;simp only[Option.some.injEq] at h;subst h;have ha:gz γ o off a:=ha.resolve_left (by omega);simp only[Builtin.firstCells];rw[show n.succ=n+1 from rfl];obtain ⟨p,hp,cc,hb,hs,hl,oE⟩:=hR.find hg (by simp) ha.ne;obtain rfl:=ha.at hp;generalize (n+1) * size=k at hle ⊢;have hlen:((cc.toList.drop (p.base+off)).take k).length=k:=by simp;omega
     have cW:=fun (w':World) (Va:w'.heap=w.heap)=>run_loadCells_list (P:=P) w' ⟨p.block,p.base+off,none⟩ ((cc.toList.drop (p.base+off)).take k) (by
      intro j u hu;rw[kG];have hj:j<k:=by
       have:=(List.getElem?_eq_some_iff.1 hu).1;rw[hlen] at this;exact this
      rw[List.getElem?_take,if_pos hj,List.getElem?_drop] at hu;simp only[World.cell?,Va,hb,Option.isSome_none,Bool.false_eq_true,if_false];simpa using hu)
     rw[hlen] at cW;refine ⟨_,cW,?_⟩;simp only[];refine pq (by rw[hlen];simp;omega) fun i u hu=>?_;rw[List.getElem?_take] at hu;split at hu
     ·rename_i hi;rw[List.getElem?_drop] at hu;obtain ⟨x,hx,kA⟩:=oE _ u hu;refine ⟨x,?_,kA⟩;rw[List.getElem?_take,if_pos hi,List.getElem?_drop,Nat.add_assoc];simpa using hx
     ·simp at hu
    ·cases h
   ·cases h
 ·rw[al] at hx;subst hx;simp only[Option.some.injEq] at h;subst h;exact ⟨#[],fun _ _=>rfl,by simp[az]⟩
 ·rename_i s;rw[al] at hx;subst hx;simp only[Option.some.injEq] at h;subst h;refine ⟨_,fun _ _=>rfl,?_⟩;have e:((s.extract 0 n).data.map fun b=>Value.int .u8 b.toNat).toList=(s.data.toList.take n).map fun b=>Value.int .u8 b.toNat:=by
   rw[Array.toList_map];congr 1;simp[ByteArray.data_extract]
  rw[e];have:=kJ γ ((s.data.toList.take n).map fun b=>Value.int .u8 b.toNat);rw[List.map_map] at this;exact this
 ·cases h
omit hE in
theorem C7(hR:Rel γ σ w){size n:Nat}{x:AV}{l:List AV}(h:iS σ size n x=some l){y:Value}(hx:an γ x y) :
  ∃cs:Array Value,(Builtin.firstCells size n y).run P w=.ok cs w/\az γ l cs.toList:=by
 obtain ⟨cs,h1,h2⟩:=uO (P:=P) hR h hx;exact ⟨cs,h1 w rfl,h2⟩
omit hE in
theorem uv:∀(l:List AV) (s s':ByteArray),oi l s=some s'->∃ns:List Int,l=ns.map (fun n=>.lit (.int .u8 n))/\s'=ns.foldl (fun r n=>r.push (UInt8.ofNat n.toNat)) s
 | [],s,s',h=>by simp only[oi,Option.some.injEq] at h;exact ⟨[],rfl,h.symm⟩
 | v::l,s,s',h=>by
   unfold oi at h;split at h
   ·rename_i heq;cases heq
   ·rename_i n l' heq;cases heq
    obtain ⟨ns,rfl,e⟩:=uv _ _ _ h;exact ⟨n::ns,rfl,e⟩
   ·cases h
theorem Nq(hR:Rel γ σ w){src dst:TypeId}{x v:AV}(h:mN E σ src dst x=some (.pure v)\/mN E σ src dst x=some (.read v)){y:Value}(hx:an γ x y) :
  ∃u,(convert src dst y).run P w=.ok u w/\an γ v u:=by
 replace h:∃out,mN E σ src dst x=some out/\(out=.pure v\/out=.read v):=by
  rcases h with h|h
  ·exact ⟨_,h,.inl rfl⟩
  ·exact ⟨_,h,.inr rfl⟩
 obtain ⟨out,h,ho⟩:=h;unfold mN at h;split at h
 ·rename_i sr dr hs hd;unfold convert;simp only[Sem.run_bind,ba hE hs w,ba hE hd w,Result.andThen_ok];split at h
  ·rename_i k k0 n uU;simp only[Option.some.injEq] at h;subst h;obtain rfl:v=_:=by rcases ho with e|e<;>cases e;rfl
   rw[al] at hx;subst hx;rw[uU];exact ⟨_,rfl,aM γ _⟩
  ·rename_i s uU;simp only[Option.some.injEq] at h;subst h;obtain rfl:v=_:=by rcases ho with e|e<;>cases e;rfl
   rw[al] at hx;subst hx;rw[uU];exact ⟨_,rfl,aM γ _⟩
  ·rename_i uU _;split at h
   ·rename_i e G8;split at h
    ·rename_i er fh;split at h
     ·rename_i WX;split at h
      ·simp only[Option.some.injEq] at h;subst h;obtain rfl:v=_:=by rcases ho with e|e<;>cases e;rfl
       rw[al] at hx;subst hx;refine ⟨.string .empty,?_,aM γ _⟩;rw[G8,uU];simp only[Sem.run_bind,ba hE fh w,Result.andThen_ok,WX];rfl
      ·split at h
       ·rename_i l hl;obtain ⟨s,si,rfl⟩:=Option.map_eq_some_iff.1 h;obtain rfl:v=_:=by rcases ho with e|e<;>cases e;rfl
        have xA:=hx;simp only[an] at hx;obtain ⟨a,c,rfl,_⟩:=hx;obtain ⟨cs,cW,oE⟩:=C7 hR hl xA;obtain ⟨ns,rfl,rfl⟩:=uv _ _ _ si;refine ⟨_,?_,aM γ _⟩;rw[G8,uU];simp only[Sem.run_bind,ba hE fh w,Result.andThen_ok,WX];refine run_bytesToString w _ _ _ ns ?_;have e1:cs.toList=ns.map (Value.int .u8):=by
         have:=fR (γ:=γ) (xs:=ns.map (Value.int .u8)) (ys:=cs.toList) (by rw[List.map_map];exact oE);exact this
        simp only[Builtin.firstCells,Nat.mul_one] at cW;rw[cW,<-e1]
       ·cases h
      ·cases h
     ·cases h
    ·cases h
   ·cases h
  ·cases h
 ·cases h
omit hE in
theorem sx{f:Value->Value->Sem Value}:∀(l:List AV) (v u:AV) (x:Value) (xs:List Value),mB f v l=some u->an γ v x->az γ l xs->∃y,(xs.foldlM f x).run P w=.ok y w/\an γ u y
 | [],v,u,x,xs,h,hx,hl=>by
   simp only[az] at hl;subst hl;simp only[mB,Option.some.injEq] at h;subst h;exact ⟨x,rfl,hx⟩
 | a::l,v,u,x,xs,h,hx,hl=>by
   unfold mB at h;split at h
   ·rename_i heq;cases heq
   ·rename_i k n k' m rest heq;cases heq
    simp only[az] at hl;obtain ⟨y,ys,rfl,hy,hl⟩:=hl;rw[al] at hx hy;subst hx hy;split at h
    ·rename_i z hz;obtain ⟨c,hc,rfl⟩:=nz hz;obtain ⟨y,h1,h2⟩:=sx _ _ _ c ys h (aM γ c) hl;refine ⟨y,?_,h2⟩;simp only[List.foldlM_cons,Sem.run_bind,hc,Sem.run_pure',Result.andThen_ok,h1]
    ·cases h
   ·cases h
omit hE in
theorem Lw(hR:Rel γ σ w){it v:AV}(h:Es σ it=some v){y:Value}(hx:an γ it y):∃u,(Instr.entry y).run P w=.ok u w/\an γ v u:=by
 unfold Es at h;split at h
 ·rename_i r0;split at h
  ·rename_i m since seen mI hg;split at h
   ·rename_i sP es clock lq hm;split at h
    ·rename_i k u b Jc Uy;simp only[Option.some.injEq] at h;subst h;simp only[an] at hx;obtain ⟨a,rfl,ha⟩:=hx;obtain ⟨p,hp,vY,rr,hb,AN⟩:=hR.find hg (by simp) ha.ne;obtain rfl:=ha.at hp;obtain ⟨q,hq,es',NP,he⟩:=hR.find hm (by simp) AN.ne;obtain rfl:=AN.at hq;have oF:(getObj p.block).run P w=.ok (.mapIter (some q.block) since seen.toArray mI) w:=by simp[getObj,Sem.run,hb]
     have Cp:(getObj q.block).run P w=.ok (.map es' clock) w:=by simp[getObj,Sem.run,NP]
     have EC:seen.toArray.back?=some sP:=by simpa using lq
     have WS:=Nat.eq_of_beq_eq_true Jc;have hf:∀(es:List (AV×AV×Nat)) (es':List MapEntry),aX γ es es'->es.find? (fun e=>Nat.beq e.2.2 sP)=some (k,u,b)->∃k' u',es'.find? (·.born==sP)=some ⟨k',u',b⟩/\an γ k k'/\an γ u u':=by
      intro es;induction es with
      | nil=>intro es' _ h;simp at h
      | cons e es ih=>
        intro es' he h;obtain ⟨k0,v0,b0⟩:=e;simp only[aX] at he;obtain ⟨k',v',rest,rfl,h1,h2,he⟩:=he;rw[List.find?_cons] at h ⊢;simp only[] at h ⊢;cases hb:Nat.beq b0 sP with
        | true=>
          have:=Nat.eq_of_beq_eq_true hb;subst this;rw[hb] at h;simp only[Option.some.injEq,Prod.mk.injEq] at h;obtain ⟨rfl,rfl,rfl⟩:=h;exact ⟨k',v',by simp,h1,h2⟩
        | false=>
          have:=Nat.ne_of_beq_eq_false hb;rw[hb] at h;simp only[] at h;have aN:(b0==sP)=false:=by simpa using this
          rw[aN];exact ih _ he h
     obtain ⟨k',u',QK,LN,zd⟩:=hf es es'.toList he Uy;have hf'':es'.find? (·.born==sP)=some ⟨k',u',b⟩:=by rw[<-Array.find?_toList];exact QK
     unfold Instr.entry;rw[vY];simp only[Sem.run_bind,oF,Result.andThen_ok,EC,Cp,WS,hf''];refine ⟨.tuple #[k',u'],?_,?_⟩
     ·simp
     ·simp only[an];exact ⟨_,rfl,by simp only[az];exact ⟨k',[u'],rfl,LN,u',[],rfl,zd,rfl⟩⟩
    ·cases h
   ·cases h
  ·cases h
 ·cases h
theorem xY{t:TypeId}{x v:AV}{lo hi mx:Option AV}(h:zH E t x lo hi mx=some v){x':Value}{Cz j4 mx':Option Value}(hx:an γ x x')(h1:pZ γ lo Cz)(h2:pZ γ hi j4)(h3:pZ γ mx mx') :
  ∃u,(Instr.sliceAt t x' Cz j4 mx').run P w=.ok u w/\an γ v u:=by
 unfold zH at h;cases hr:E.ty t with
 | none=>rw[hr] at h;cases h
 | some r=>
   rw[hr] at h;simp only[] at h;unfold Instr.sliceAt;simp only[Sem.run_bind,ba hE hr w,Result.andThen_ok];have GL:∀{o off s:Nat} {a:Addr} {l:Nat},gz γ o off a->gz γ o (off+l * s) (a.add (l * s)):=by
    intro o off s a l ha;unfold gz at ha ⊢;cases hg:γ o with
    | none=>rw[hg] at ha;exact ha.elim
    | some q=>
      rw[hg] at ha;cases q with
      | none=>trivial
      | some p=>simp only[] at ha ⊢;rw[ha,kG,Nat.add_assoc]
   have U6:∀{o n m:Nat},oA γ o n->m<=n->oA γ o m:=by
    intro o n m h hm;unfold oA at h ⊢;cases hg:γ o with
    | none=>rw[hg] at h;exact h.elim
    | some q=>
      rw[hg] at h;cases q with
      | none=>trivial
      | some p=>simp only[] at h ⊢;omega
   split at h
   ·rename_i n elem o off hd;split at h
    ·rename_i er l hh m fh hb;simp only[Option.some.injEq] at h;subst h;simp only[an] at hx;obtain ⟨a,rfl,ha⟩:=hx;obtain ⟨mm,cW,QO,hm,LL,N4⟩:=p8 (P:=P) (w:=w) (isSlice:=false) (c:=n) hb (.inl rfl) (Nat.le_refl _) h1 h2 h3;obtain rfl:mm=m:=by
      rcases hm with ⟨k,e,rfl⟩|⟨e,_⟩
      ·cases e;rfl
      ·cases e
     rw[hd];simp only[Instr.sureAddr,Sem.run_bind,Sem.run_pure,Result.andThen_ok,cW,bT hE fh w];refine ⟨_,rfl,?_⟩;simp only[an];refine ⟨_,_,rfl,?_,by omega,rfl⟩;by_cases sc:mm=l
     ·exact .inl (by omega)
     ·rw[if_neg sc];exact .inr (GL ha)
    ·cases h
   ·rename_i elem o off len cap hd;split at h
    ·rename_i er l hh m fh hb;obtain ⟨Sy,gh,rfl⟩:=Option.map_eq_some_iff.1 h;simp only[an] at hx;obtain ⟨a,c,rfl,ha,tL,v7⟩:=hx;have Jc:cap.known=some c\/(cap.known=none/\len<=c):=by
      cases cap with
      | k n=>simp only[] at v7;subst v7;exact .inl rfl
      | grown s=>exact .inr ⟨rfl,tL⟩
     obtain ⟨mm,cW,QO,hm,LL,N4⟩:=p8 (P:=P) (w:=w) (isSlice:=true) hb Jc tL h1 h2 h3;rw[hd];simp only[Instr.slice,Sem.run_bind,ba hE hr w,hd,Result.andThen_ok,cW,bT hE fh w,Sem.run_pure];have EP:(if mm=l then some a else Option.map (fun x=>x.add (l * er.info.size)) (some a))=some (if mm=l then a else a.add (l * er.info.size)):=by
      split<;>rfl
     rw[EP];refine ⟨_,rfl,?_⟩;simp only[an];refine ⟨_,_,rfl,?_,by omega,?_⟩
     ·by_cases sc:mm=l
      ·exact .inl (by omega)
      ·rw[if_neg sc];refine .inr (GL (ha.resolve_left ?_));omega
     ·unfold CU at gh;split at gh
      ·simp only[Option.some.injEq] at gh;subst gh;rcases hm with ⟨k,e,rfl⟩|⟨e,_⟩
       ·cases e;rfl
       ·cases e
      ·split at gh
       ·rename_i s;split at gh
        ·rename_i hs;simp only[Option.some.injEq] at gh;subst gh;rcases hm with ⟨k,e,_⟩|⟨_,_,rfl⟩
         ·cases e
         ·simp only[] at v7 ⊢;have:=Nat.eq_of_beq_eq_true hs;subst this;refine U6 v7 ?_;rw[Nat.sub_mul];have:=Nat.mul_le_mul_right er.info.size (Nat.le_trans QO LL);omega
        ·cases gh
       ·cases gh
    ·cases h
   ·rename_i elem len cap hd;split at h
    ·rename_i er l hh m fh hb hle;simp only[Option.some.injEq] at h;subst h;rw[al] at hx;subst hx;obtain ⟨mm,cW,QO,hm,LL,N4⟩:=p8 (P:=P) (w:=w) (isSlice:=true) hb (.inl rfl) (Nat.le_of_ble_eq_true hle) h1 h2 h3;obtain rfl:mm=m:=by
      rcases hm with ⟨k,e,rfl⟩|⟨e,_⟩
      ·cases e;rfl
      ·cases e
     rw[hd];simp only[Instr.slice,Sem.run_bind,ba hE hr w,hd,Result.andThen_ok,cW,bT hE fh w,Sem.run_pure];refine ⟨_,rfl,?_⟩;rw[al];congr 1;split<;>rfl
    ·cases h
   ·rename_i s hd;split at h
    ·rename_i l hh m hb;simp only[Option.some.injEq] at h;subst h;rw[al] at hx;subst hx;cases mx' with
     | some _=>exact h3.elim
     | none=>
       obtain ⟨mm,cW,QO,hm,LL,N4⟩:=p8 (P:=P) (w:=w) (isSlice:=false) (mx':=none) hb (.inl rfl) (Nat.le_refl _) h1 h2 trivial;rw[hd];simp only[Instr.slice,Sem.run_bind,ba hE hr w,hd,Result.andThen_ok,cW,Sem.run_pure,Option.isSome_none,Bool.false_eq_true,if_false];exact ⟨_,rfl,aM γ _⟩
    ·cases h
   ·cases h
end
end Go.Proofs.YtmbdghclhpboaaaGreat.Ev
