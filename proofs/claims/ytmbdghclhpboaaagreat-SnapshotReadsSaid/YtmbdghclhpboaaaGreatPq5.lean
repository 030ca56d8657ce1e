/- Part of the proof: EvH. Conditions: as each states. -/
import Derived.Test.YtmbdghclhpboaaaGreatPq4
set_option linter.all false
namespace Go.Proofs.YtmbdghclhpboaaaGreat.Ev
def sA(γ:aT):Option (Nat×AV)->Option (Nat×Value)->Prop
 | none,none=>True
 | some (j,v),some (j',v')=>j=j'/\aw γ v v'
 | _,_=>False
theorem BB:∀{ks:List Nat} {l:List AV},fits ks l=true->∃xs:List Value,l=xs.map .lit
 | [],[],_=>⟨[],rfl⟩
 | [],_::_,h=>by simp[fits] at h
 | _::_,[],h=>by simp[fits] at h
 | k::ks,v::l,h=>by
   cases v with
   | lit u=>
     simp only[fits,Bool.and_eq_true] at h;obtain ⟨xs,rfl⟩:=BB h.2;exact ⟨u::xs,rfl⟩
   | _=>simp[fits] at h
section
variable{P:Program}{E:Env}(hE:cL P E){γ:aT}{σ:AS}{w:World}
include hE
theorem fX{t:TypeId}{k:AV}{d:TypeDesc}{x:Value}{b:Bool}(h:lX E t k=some d)(hx:aw γ k x):(Instr.checkKey b 10000 t x).run P w=.ok () w:=by
 unfold lX at h;cases hr:E.ty t with
 | none=>rw[hr] at h;cases h
 | some r=>
   rw[hr] at h;simp only[] at h;have hk:=fun n k e (h1:r.flat=some n) (h2:r.bp=.array k e) xs=>hE.key t r n k e hr h1 h2 xs b w;have w8:(10000:Nat)=9999+1:=rfl;rw[w8] at hk ⊢;generalize 9999=m at hk ⊢;split at h
   ·rename_i hd;rw[au] at hx;subst hx;simp only[Instr.checkKey,Sem.run_bind,bn hE hr w,Result.andThen_ok,hd];rfl
   ·rename_i hd;rw[au] at hx;subst hx;simp only[Instr.checkKey,Sem.run_bind,bn hE hr w,Result.andThen_ok,hd];rfl
   ·rename_i hd;rw[au] at hx;subst hx;simp only[Instr.checkKey,Sem.run_bind,bn hE hr w,Result.andThen_ok,hd];rfl
   ·rename_i n e l hd;split at h
    ·rename_i q hq;split at h
     ·rename_i hb;rw[Bool.and_eq_true] at hb;simp only[aw] at hx;obtain ⟨a,rfl,ha⟩:=hx;have:∃xs:List Value,l=xs.map .lit:=BB hb.2;obtain ⟨xs,rfl⟩:=this;have e1:=gx ha;have:=hk q n e hq hd xs (by have:=nQ1 hb.1;simpa using this);rw[<-e1] at this;simpa using this
     ·cases h
    ·cases h
   ·cases h
omit hE in
theorem zr{d:TypeDesc}{k:AV}{x:Value}(hx:aw γ k x)(hn:∀n e,d≠.array n e):∀(es:List (AV×AV×Nat)) (es':List MapEntry) (i:Nat) (r:Option (Nat×AV)),bf γ es es'->eP d k es i=some r ->
  ∃r',Instr.findNow d x es' i=some r'/\sA γ r r'
 | [],es',i,r,he,h=>by
   simp only[bf] at he;subst he;simp only[eP,Option.some.injEq] at h;subst h;exact ⟨none,rfl,tU⟩
 | (k',v,b)::es,es',i,r,he,h=>by
   simp only[bf] at he;obtain ⟨kk,vv,rest,rfl,h1,h2,he⟩:=he;simp only[eP] at h;cases hk:js d k k' with
   | none=>rw[hk] at h;cases h
   | some c=>
     rw[hk] at h;have hs:Instr.sameNow d x kk=some c:=by
      unfold js at hk;split at hk
      ·rw[au] at hx h1;subst hx h1;exact hk
      ·rw[au] at hx h1;subst hx h1;exact hk
      ·rw[au] at hx h1;subst hx h1;exact hk
      ·exact absurd rfl (hn _ _)
      ·cases hk
     simp only[Instr.findNow,hs];cases c with
     | true=>
       simp only[Option.some.injEq] at h;subst h;exact ⟨some (i,vv),rfl,rfl,h2⟩
     | false=>exact zr hx hn es rest (i+1) r he h
theorem sM{t:TypeId}{r:dd}{n:Nat}{e:TypeId}(hr:E.ty t=some r)(hd:r.bp=.array n e)(m:Nat)(hm:r.flat=some m){l:List AV}{x:Array Value}(hx:aG γ l x.toList)(hl:l.length=m)(IC:fits r.kinds l=true)
  (FO:∀(l':List AV) c,bz l l'=some c->l'.length=m):∀(es:List (AV×AV×Nat)) (es':List MapEntry) (i:Nat) (q:Option (Nat×AV)),bf γ es es'->eP (.array n e) (.agg l) es i=some q ->
  ∃r',(Instr.findAsking t (.agg x) es' i).run P w=.ok r' w/\sA γ q r'
 | [],es',i,q,he,h=>by
   simp only[bf] at he;subst he;simp only[eP,Option.some.injEq] at h;subst h;exact ⟨none,rfl,tU⟩
 | (k',v,b)::es,es',i,q,he,h=>by
   simp only[bf] at he;obtain ⟨kk,vv,rest,rfl,h1,h2,he⟩:=he;simp only[eP] at h;cases hk:js (.array n e) (.agg l) k' with
   | none=>rw[hk] at h;cases h
   | some c=>
     rw[hk] at h;have hs:(Op.equal t (.agg x) kk).run P w=.ok c w:=by
      unfold js at hk;split at hk
      ·rename_i heq _;cases heq
      ·rename_i heq _;cases heq
      ·rename_i heq _;cases heq
      ·rename_i l1 l2 _ heq;simp only[AV.agg.injEq] at heq;subst heq;simp only[aw] at h1;obtain ⟨y,rfl,hy⟩:=h1;exact Ii hE hr hm hl (FO _ _ hk) IC hk hx hy
      ·cases hk
     simp only[Instr.findAsking,Sem.run_bind,hs,Result.andThen_ok];cases c with
     | true=>
       simp only[Option.some.injEq] at h;subst h;exact ⟨some (i,vv),rfl,rfl,h2⟩
     | false=>
       simp only[Bool.false_eq_true,if_false];exact sM hr hd m hm hx hl IC FO es rest (i+1) q he h
omit hE in
theorem sP:∀{l m:List AV} {b:Bool},bz l m=some b->m.length=l.length:=by
 intro l m b h;obtain ⟨⟨xs,rfl⟩,ys,rfl⟩:=oc h;induction xs generalizing ys b with
 | nil=>cases ys with
   | nil=>rfl
   | cons y ys=>simp[bz] at h
 | cons x xs ih=>cases ys with
   | nil=>simp[bz] at h
   | cons y ys=>
     simp only[List.map_cons,bz] at h;split at h
     ·rename_i hy;simpa using ih ys hy
     ·cases h
theorem iR{t:TypeId}{k:AV}{d:TypeDesc}{x:Value}(h:lX E t k=some d)(hx:aw γ k x){es:List (AV×AV×Nat)}{es':List MapEntry}{q:Option (Nat×AV)}(he:bf γ es es')
  (hf:eP d k es 0=some q):∃r',(Instr.findKey t x es').run P w=.ok r' w/\sA γ q r':=by
 unfold lX at h;cases hr:E.ty t with
 | none=>rw[hr] at h;cases h
 | some r=>
   rw[hr] at h;simp only[] at h;unfold Instr.findKey;simp only[Sem.run_bind,bn hE hr w,Result.andThen_ok];have plain:r.bp=d->(∀n e,d≠.array n e)->∃r',Sem.run P (match Instr.findNow r.bp x es' 0 with
     | some r=>pure r
     | none=>Instr.findAsking t x es') w=.ok r' w/\sA γ q r':=by
    intro hd hn;obtain ⟨r',h1,h2⟩:=zr hx hn es es' 0 q he hf;rw[hd,h1];exact ⟨r',rfl,h2⟩
   split at h
   ·rename_i hd;simp only[Option.some.injEq] at h;exact plain (hd.trans h) (by intro n e he;rw[<-h] at he;cases he)
   ·rename_i hd;simp only[Option.some.injEq] at h;exact plain (hd.trans h) (by intro n e he;rw[<-h] at he;cases he)
   ·rename_i hd;simp only[Option.some.injEq] at h;exact plain (hd.trans h) (by intro n e he;rw[<-h] at he;cases he)
   ·rename_i n e l hd;split at h
    ·rename_i m hm;split at h
     ·rename_i hb;rw[Bool.and_eq_true] at hb;simp only[Option.some.injEq] at h;subst h;simp only[aw] at hx;obtain ⟨a,rfl,ha⟩:=hx;have hl:=nQ1 hb.1;obtain ⟨r',h1,h2⟩:=sM hE (w:=w) hr hd m hm ha hl hb.2 (fun l' c hc=>by rw[sP hc,hl]) es es' 0 q he hf;cases es with
      | nil=>
        simp only[bf] at he;subst he;simp only[eP,Option.some.injEq] at hf;subst hf;exact ⟨none,rfl,tU⟩
      | cons e0 es=>
        obtain ⟨k0,v0,b0⟩:=e0;simp only[bf] at he;obtain ⟨kk,vv,rest,rfl,he1,Tg,he⟩:=he;have:Instr.findNow r.bp (.agg a) (⟨kk,vv,b0⟩::rest) 0=none:=by
         rw[hd];simp only[Instr.findNow,Instr.sameNow]
        rw[this];exact ⟨r',h1,h2⟩
     ·cases h
    ·cases h
   ·cases h
omit hE in
theorem pB{d:TypeDesc}{k:AV}:∀(es fs:List (AV×AV×Nat)) (i:Nat),es.map (fun e=>(e.1,e.2.1))=fs.map (fun e=>(e.1,e.2.1))->eP d k es i=eP d k fs i
 | [],[],i,_=>rfl
 | [],_::_,i,h=>by simp at h
 | _::_,[],i,h=>by simp at h
 | (a,b,c)::es,(a',b',c')::fs,i,h=>by
   simp only[List.map_cons,List.cons.injEq,Prod.mk.injEq] at h;obtain ⟨⟨rfl,rfl⟩,h⟩:=h;simp only[eP,pB es fs (i+1) h]
omit hE in
theorem sJ(γ:aT):∀l:List MapEntry,bf γ (l.map fun e=>(ofValue e.key,ofValue e.val,e.born)) l/\(l.map fun e=>(ofValue e.key,ofValue e.val,e.born)).map (fun e=>(e.1,e.2.1))=l.map fun e=>(ofValue e.key,ofValue e.val)
 | []=>⟨rfl,rfl⟩
 | e::l=>by
   obtain ⟨h1,h2⟩:=sJ γ l;refine ⟨?_,by simp[h2]⟩;simp only[List.map_cons,bf];exact ⟨e.key,e.val,l,rfl,dg γ _,dg γ _,h1⟩
omit hE in
theorem yI(hR:Rel γ σ w){x:AV}{y:Value}{es:List (AV×AV×Nat)}(h:yH σ x=some es)(hx:aw γ x y) :
  (y=.map none/\es=[])\/(∃r es' clock Ic,y=.map (some r)/\w.heap[r]?=some (.map es' clock)/\bf γ Ic es'.toList/\Ic.map (fun e=>(e.1,e.2.1))=es.map (fun e=>(e.1,e.2.1))):=by
 unfold yH at h;split at h
 ·rw[au] at hx;simp only[Option.some.injEq] at h;exact .inl ⟨hx,h.symm⟩
 ·rename_i o;split at h
  ·rename_i es0 clock hg;simp only[Option.some.injEq] at h;subst h;simp only[aw] at hx;obtain ⟨r,rfl,hr⟩:=hx;obtain ⟨p,hp,es',hb,he⟩:=hR.find hg (by simp) hr.ne;rw[hr.at hp];exact .inr ⟨_,es',clock,_,rfl,hb,he,rfl⟩
  ·rename_i es0 hg;simp only[Option.some.injEq] at h;subst h;simp only[aw] at hx;obtain ⟨r,rfl,hr⟩:=hx;obtain ⟨p,hp,es',clock,hb,he,_⟩:=hR.find hg (by simp) hr.ne;rw[hr.at hp];obtain ⟨h1,h2⟩:=sJ γ es'.toList;exact .inr ⟨_,es',clock,_,rfl,hb,h1,by rw[h2,<-he];simp[uN]⟩
  ·cases h
 ·cases h
theorem KZ(hR:Rel γ σ w){t:TypeId}{x k v:AV}{ok:Bool}(h:xj E σ t x k ok=some v){x' k':Value}(hx:aw γ x x')(hk:aw γ k k') :
  ∃y,(Instr.lookup t x' k' ok).run P w=.ok y w/\aw γ v y:=by
 unfold xj at h;cases hr:E.ty t with
 | none=>rw[hr] at h;cases h
 | some r=>
   rw[hr] at h;simp only[] at h;split at h
   ·rename_i kt et hd;split at h
    ·rename_i d es er iY pg fN;have Kz:=fun b=>fX hE (w:=w) (b:=b) iY hk;have two:∀(a b:Value) (u v:AV),aw γ u a->aw γ v b->aw γ (.tuple [u,v]) (.tuple #[a,b]):=by
      intro a b u v h1 h2;simp only[aw];exact ⟨_,rfl,by simp only[aG];exact ⟨a,[b],rfl,h1,b,[],rfl,h2,rfl⟩⟩
     unfold Instr.lookup;simp only[Sem.run_bind,bn hE hr w,Result.andThen_ok,hd];split at h
     ·rename_i j u hf;simp only[Option.some.injEq] at h;subst h;rcases yI hR pg hx with ⟨rfl,he⟩|⟨r0,es',clock,Ic,rfl,hb,he,dS⟩
      ·subst he;simp[eP] at hf
      ·obtain ⟨r',h1,h2⟩:=iR hE (w:=w) iY hk he ((pB Ic es 0 dS).trans hf);cases r' with
       | none=>exact h2.elim
       | some r'=>
         have hg:(getObj r0).run P w=.ok (.map es' clock) w:=by simp[getObj,Sem.run,hb]
         simp only[Sem.run_bind,hg,Kz,h1,Result.andThen_ok,Sem.run_pure];cases ok with
         | true=>exact ⟨_,rfl,two _ _ _ _ h2.2 (aS γ _)⟩
         | false=>exact ⟨_,rfl,h2.2⟩
     ·rename_i hf;split at h
      ·rename_i z hz;simp only[Option.some.injEq] at h;subst h;have NX:=dg γ z;rcases yI hR pg hx with ⟨rfl,he⟩|⟨r0,es',clock,Ic,rfl,hb,he,dS⟩
       ·obtain ⟨r',h1,h2⟩:=iR hE (w:=w) (es':=[]) iY hk (by rw[he];rfl) hf;cases r' with
        | some r'=>exact h2.elim
        | none=>
          simp only[Sem.run_bind,Kz,h1,Result.andThen_ok,Sem.run_pure,mU hE fN w hz];cases ok with
          | true=>exact ⟨_,rfl,two _ _ _ _ NX (aS γ _)⟩
          | false=>exact ⟨_,rfl,NX⟩
       ·obtain ⟨r',h1,h2⟩:=iR hE (w:=w) iY hk he ((pB Ic es 0 dS).trans hf);cases r' with
        | some r'=>exact h2.elim
        | none=>
          have hg:(getObj r0).run P w=.ok (.map es' clock) w:=by simp[getObj,Sem.run,hb]
          simp only[Sem.run_bind,hg,Kz,h1,Result.andThen_ok,Sem.run_pure,mU hE fN w hz];cases ok with
          | true=>exact ⟨_,rfl,two _ _ _ _ NX (aS γ _)⟩
          | false=>exact ⟨_,rfl,NX⟩
      ·cases h
     ·cases h
    ·cases h
   ·cases h
end
end Go.Proofs.YtmbdghclhpboaaaGreat.Ev
namespace Go.Proofs.YtmbdghclhpboaaaGreat.Ev
section
variable{P:Program}{E:Env}(hE:cL P E){γ:aT}{σ:AS}{w:World}
include hE
theorem TJ(hR:Rel γ σ w){t:TypeId}{x v:AV}(h:QE E σ t x=some v){y:Value}(hx:aw γ x y){ts:Array TypeId}{ty:TypeId}{ys:Array Value}(ht:ts[0]?=some t)(hy:ys[0]?=some y) :
  ∃u,(Builtin.len_ ts ty ys).run P w=.ok u w/\aw γ v u:=by
 unfold QE at h;cases hr:E.ty t with
 | none=>rw[hr] at h;cases h
 | some r=>
   rw[hr] at h;simp only[] at h;unfold Builtin.len_;simp only[ht,hy,Sem.run_bind,bn hE hr w,Result.andThen_ok];split at h
   ·rename_i hd;rw[au] at hx;subst hx;simp only[Option.some.injEq] at h;subst h;rw[hd];exact ⟨_,rfl,aS γ _⟩
   ·rename_i hd;simp only[Option.some.injEq] at h;subst h;rw[hd];exact ⟨_,rfl,aS γ _⟩
   ·rename_i hd;simp only[aw] at hx;obtain ⟨a,c,rfl,_⟩:=hx;simp only[Option.some.injEq] at h;subst h;rw[hd];exact ⟨_,rfl,aS γ _⟩
   ·rename_i hd;rw[au] at hx;subst hx;simp only[Option.some.injEq] at h;subst h;rw[hd];exact ⟨_,rfl,aS γ _⟩
   ·rename_i hd;split at h
    ·rename_i es pg;simp only[Option.some.injEq] at h;subst h;rcases yI hR pg hx with ⟨rfl,he⟩|⟨r0,es',clock,Ic,rfl,hb,he,dS⟩
     ·subst he;rw[hd];exact ⟨_,rfl,aS γ _⟩
     ·have hg:(getObj r0).run P w=.ok (.map es' clock) w:=by simp[getObj,Sem.run,hb]
      rw[hd];simp only[Sem.run_bind,hg,Result.andThen_ok,Sem.run_pure];refine ⟨_,rfl,?_⟩;have:=oO he;rw[au];have e2:Ic.length=es.length:=by simpa using congrArg List.length dS
      have e:es'.size=es.length:=by rw[<-e2];simpa using this
      rw[e]
    ·cases h
   ·cases h
omit hE in
theorem vo(hR:Rel γ σ w){size n:Nat}{x:AV}{l:List AV}(h:jy σ size n x=some l){y:Value}(hx:aw γ x y) :
  ∃cs:Array Value,(∀w':World,w'.heap=w.heap->(Builtin.firstCells size n y).run P w'=.ok cs w')/\aG γ l cs.toList:=by
 unfold jy at h;split at h
 ·rename_i o off len cap;simp only[aw] at hx;obtain ⟨a,c,rfl,ha,uR,_⟩:=hx;split at h
  ·simp only[Option.some.injEq] at h;subst h;refine ⟨#[],fun w' _=>?_,by simp[aG]⟩;simp only[Builtin.firstCells,Nat.zero_mul];simpa using run_loadCells_list (P:=P) w' a [] (by simp)
  ·rename_i n;split at h
   ·rename_i l0 elem hg;split at h
    ·rename_i hle;rw[Bool.and_eq_true] at hle;have Tu:=nB1 hle.2;replace hle:=nB1 hle.1;simp only[Option.some.injEq] at h;subst h;have ha:gY γ o off a:=ha.resolve_left (by omega);simp only[Builtin.firstCells];rw[show n.succ=n+1 from rfl];obtain ⟨p,hp,cc,hb,hs,hl,pR⟩:=hR.find hg (by simp) ha.ne;obtain rfl:=ha.at hp;generalize (n+1) * size=k at hle ⊢;have hlen:((cc.toList.drop (p.base+off)).take k).length=k:=by simp;omega
     have dB:=fun (w':World) (XM:w'.heap=w.heap)=>run_loadCells_list (P:=P) w' ⟨p.block,p.base+off,none⟩ ((cc.toList.drop (p.base+off)).take k) (by
      intro j u hu;rw[lu];have hj:j<k:=by
       have:=(lE1.1 hu).1;rw[hlen] at this;exact this
      rw[List.getElem?_take,if_pos hj,List.getElem?_drop] at hu;simp only[World.cell?,XM,hb,Option.isSome_none,Bool.false_eq_true,if_false];simpa using hu)
     rw[hlen] at dB;refine ⟨_,dB,?_⟩;simp only[];refine qc (by rw[hlen];simp;omega) fun i u hu=>?_;rw[List.getElem?_take] at hu;split at hu
     ·rename_i hi;rw[List.getElem?_drop] at hu;obtain ⟨x,hx,ll⟩:=pR _ u hu;refine ⟨x,?_,ll⟩;rw[List.getElem?_take,if_pos hi,List.getElem?_drop,Nat.add_assoc];simpa using hx
     ·simp at hu
    ·cases h
   ·cases h
 ·rw[au] at hx;subst hx;simp only[Option.some.injEq] at h;subst h;exact ⟨#[],fun _ _=>rfl,by simp[aG]⟩
 ·rename_i s;rw[au] at hx;subst hx;simp only[Option.some.injEq] at h;subst h;refine ⟨_,fun _ _=>rfl,?_⟩;have e:((s.extract 0 n).data.map fun b=>Value.int .u8 b.toNat).toList=(s.data.toList.take n).map fun b=>Value.int .u8 b.toNat:=by
   rw[Array.toList_map];congr 1;simp[ByteArray.data_extract]
  rw[e];have:=lz γ ((s.data.toList.take n).map fun b=>Value.int .u8 b.toNat);rw[List.map_map] at this;exact this
 ·cases h
omit hE in
theorem Ea(hR:Rel γ σ w){size n:Nat}{x:AV}{l:List AV}(h:jy σ size n x=some l){y:Value}(hx:aw γ x y) :
  ∃cs:Array Value,(Builtin.firstCells size n y).run P w=.ok cs w/\aG γ l cs.toList:=by
 obtain ⟨cs,h1,h2⟩:=vo (P:=P) hR h hx;exact ⟨cs,h1 w rfl,h2⟩
omit hE in
theorem u4:∀(l:List AV) (s s':ByteArray),o2 l s=some s'->∃ns:List Int,l=ns.map (fun n=>.lit (.int .u8 n))/\s'=ns.foldl (fun r n=>r.push (UInt8.ofNat n.toNat)) s
 | [],s,s',h=>by simp only[o2,Option.some.injEq] at h;exact ⟨[],rfl,h.symm⟩
 | v::l,s,s',h=>by
   unfold o2 at h;split at h
   ·rename_i heq;cases heq
   ·rename_i n l' heq;cases heq
    obtain ⟨ns,rfl,e⟩:=u4 _ _ _ h;exact ⟨n::ns,rfl,e⟩
   ·cases h
theorem Po(hR:Rel γ σ w){src dst:TypeId}{x v:AV}(h:nL E σ src dst x=some (.pure v)\/nL E σ src dst x=some (.read v)){y:Value}(hx:aw γ x y) :
  ∃u,(convert src dst y).run P w=.ok u w/\aw γ v u:=by
 replace h:∃out,nL E σ src dst x=some out/\(out=.pure v\/out=.read v):=by
  rcases h with h|h
  ·exact ⟨_,h,.inl rfl⟩
  ·exact ⟨_,h,.inr rfl⟩
 obtain ⟨out,h,ho⟩:=h;unfold nL at h;split at h
 ·rename_i sr dr hs hd;unfold convert;simp only[Sem.run_bind,bn hE hs w,bn hE hd w,Result.andThen_ok];split at h
  ·rename_i k k0 n vz;simp only[Option.some.injEq] at h;subst h;obtain rfl:v=_:=by rcases ho with e|e<;>cases e;rfl
   rw[au] at hx;subst hx;rw[vz];exact ⟨_,rfl,aS γ _⟩
  ·rename_i s vz;simp only[Option.some.injEq] at h;subst h;obtain rfl:v=_:=by rcases ho with e|e<;>cases e;rfl
   rw[au] at hx;subst hx;rw[vz];exact ⟨_,rfl,aS γ _⟩
  ·rename_i vz _;split at h
   ·rename_i e IL;split at h
    ·rename_i er fN;split at h
     ·rename_i ZF;split at h
      ·simp only[Option.some.injEq] at h;subst h;obtain rfl:v=_:=by rcases ho with e|e<;>cases e;rfl
       rw[au] at hx;subst hx;refine ⟨.string .empty,?_,aS γ _⟩;rw[IL,vz];simp only[Sem.run_bind,bn hE fN w,Result.andThen_ok,ZF];rfl
      ·split at h
       ·rename_i l hl;obtain ⟨s,tv,rfl⟩:=oM1.1 h;obtain rfl:v=_:=by rcases ho with e|e<;>cases e;rfl
        have yy:=hx;simp only[aw] at hx;obtain ⟨a,c,rfl,_⟩:=hx;obtain ⟨cs,dB,pR⟩:=Ea hR hl yy;obtain ⟨ns,rfl,rfl⟩:=u4 _ _ _ tv;refine ⟨_,?_,aS γ _⟩;rw[IL,vz];simp only[Sem.run_bind,bn hE fN w,Result.andThen_ok,ZF];refine run_bytesToString w _ _ _ ns ?_;have e1:cs.toList=ns.map (Value.int .u8):=by
         have:=gx (γ:=γ) (xs:=ns.map (Value.int .u8)) (ys:=cs.toList) (by rw[List.map_map];exact pR);exact this
        simp only[Builtin.firstCells,Nat.mul_one] at dB;rw[dB,<-e1]
       ·cases h
      ·cases h
     ·cases h
    ·cases h
   ·cases h
  ·cases h
 ·cases h
omit hE in
theorem tF{f:Value->Value->Sem Value}:∀(l:List AV) (v u:AV) (x:Value) (xs:List Value),nD f v l=some u->aw γ v x->aG γ l xs->∃y,(xs.foldlM f x).run P w=.ok y w/\aw γ u y
 | [],v,u,x,xs,h,hx,hl=>by
   simp only[aG] at hl;subst hl;simp only[nD,Option.some.injEq] at h;subst h;exact ⟨x,rfl,hx⟩
 | a::l,v,u,x,xs,h,hx,hl=>by
   unfold nD at h;split at h
   ·rename_i heq;cases heq
   ·rename_i k n k' m rest heq;cases heq
    simp only[aG] at hl;obtain ⟨y,ys,rfl,hy,hl⟩:=hl;rw[au] at hx hy;subst hx hy;split at h
    ·rename_i z hz;obtain ⟨c,hc,rfl⟩:=oz hz;obtain ⟨y,h1,h2⟩:=tF _ _ _ c ys h (aS γ c) hl;refine ⟨y,?_,h2⟩;simp only[List.foldlM_cons,Sem.run_bind,hc,Sem.run_pure',Result.andThen_ok,h1]
    ·cases h
   ·cases h
omit hE in
theorem Nw(hR:Rel γ σ w){it v:AV}(h:FD σ it=some v){y:Value}(hx:aw γ it y):∃u,(Instr.entry y).run P w=.ok u w/\aw γ v u:=by
 unfold FD at h;split at h
 ·rename_i r0;split at h
  ·rename_i m since seen nH hg;split at h
   ·rename_i tY es clock kV hm;split at h
    ·rename_i k u b Kz Xg;simp only[Option.some.injEq] at h;subst h;simp only[aw] at hx;obtain ⟨a,rfl,ha⟩:=hx;obtain ⟨p,hp,wY,rr,hb,BU⟩:=hR.find hg (by simp) ha.ne;obtain rfl:=ha.at hp;obtain ⟨q,hq,es',PV,he⟩:=hR.find hm (by simp) BU.ne;obtain rfl:=BU.at hq;have ph:(getObj p.block).run P w=.ok (.mapIter (some q.block) since seen.toArray nH) w:=by simp[getObj,Sem.run,hb]
     have Dz:(getObj q.block).run P w=.ok (.map es' clock) w:=by simp[getObj,Sem.run,PV]
     have FK:seen.toArray.back?=some tY:=by simpa using kV
     have ZA:=nQ1 Kz;have hf:∀(es:List (AV×AV×Nat)) (es':List MapEntry),bf γ es es'->es.find? (fun e=>Nat.beq e.2.2 tY)=some (k,u,b)->∃k' u',es'.find? (·.born==tY)=some ⟨k',u',b⟩/\aw γ k k'/\aw γ u u':=by
      intro es;induction es with
      | nil=>intro es' _ h;simp at h
      | cons e es ih=>
        intro es' he h;obtain ⟨k0,v0,b0⟩:=e;simp only[bf] at he;obtain ⟨k',v',rest,rfl,h1,h2,he⟩:=he;rw[List.find?_cons] at h ⊢;simp only[] at h ⊢;cases hb:Nat.beq b0 tY with
        | true=>
          have:=nQ1 hb;subst this;rw[hb] at h;simp only[Option.some.injEq,Prod.mk.injEq] at h;obtain ⟨rfl,rfl,rfl⟩:=h;exact ⟨k',v',by simp,h1,h2⟩
        | false=>
          have:=Nat.ne_of_beq_eq_false hb;rw[hb] at h;simp only[] at h;have aP:(b0==tY)=false:=by simpa using this
          rw[aP];exact ih _ he h
     obtain ⟨k',u',Ti,NN,Ab⟩:=hf es es'.toList he Xg;have hf'':es'.find? (·.born==tY)=some ⟨k',u',b⟩:=by rw[<-Array.find?_toList];exact Ti
     unfold Instr.entry;rw[wY];simp only[Sem.run_bind,ph,Result.andThen_ok,FK,Dz,ZA,hf''];refine ⟨.tuple #[k',u'],?_,?_⟩
     ·simp
     ·simp only[aw];exact ⟨_,rfl,by simp only[aG];exact ⟨k',[u'],rfl,NN,u',[],rfl,Ab,rfl⟩⟩
    ·cases h
   ·cases h
  ·cases h
 ·cases h
theorem y4{t:TypeId}{x v:AV}{lo hi mx:Option AV}(h:AH E t x lo hi mx=some v){x':Value}{DH kU mx':Option Value}(hx:aw γ x x')(h1:qN γ lo DH)(h2:qN γ hi kU)(h3:qN γ mx mx') :
  ∃u,(Instr.sliceAt t x' DH kU mx').run P w=.ok u w/\aw γ v u:=by
 unfold AH at h;cases hr:E.ty t with
 | none=>rw[hr] at h;cases h
 | some r=>
   rw[hr] at h;simp only[] at h;unfold Instr.sliceAt;simp only[Sem.run_bind,bn hE hr w,Result.andThen_ok];have Ix:∀{o off s:Nat} {a:Addr} {l:Nat},gY γ o off a->gY γ o (off+l * s) (a.add (l * s)):=by
    intro o off s a l ha;unfold gY at ha ⊢;cases hg:γ o with
    | none=>rw[hg] at ha;exact ha.elim
    | some q=>
      rw[hg] at ha;cases q with
      | none=>trivial
      | some p=>simp only[] at ha ⊢;rw[ha,lu,Nat.add_assoc]
   have XI:∀{o n m:Nat},pa γ o n->m<=n->pa γ o m:=by
    intro o n m h hm;unfold pa at h ⊢;cases hg:γ o with
    | none=>rw[hg] at h;exact h.elim
    | some q=>
      rw[hg] at h;cases q with
      | none=>trivial
      | some p=>simp only[] at h ⊢;omega
   split at h
   ·rename_i n elem o off hd;split at h
    ·rename_i er l hh m fN hb;simp only[Option.some.injEq] at h;subst h;simp only[aw] at hx;obtain ⟨a,rfl,ha⟩:=hx;obtain ⟨mm,dB,To,hm,NM,Qa⟩:=qQ (P:=P) (w:=w) (isSlice:=false) (c:=n) hb (.inl rfl) (Nat.le_refl _) h1 h2 h3;obtain rfl:mm=m:=by
      rcases hm with ⟨k,e,rfl⟩|⟨e,_⟩
      ·cases e;rfl
      ·cases e
     rw[hd];simp only[Instr.sureAddr,Sem.run_bind,Sem.run_pure,Result.andThen_ok,dB,bY hE fN w];refine ⟨_,rfl,?_⟩;simp only[aw];refine ⟨_,_,rfl,?_,by omega,rfl⟩;by_cases tn:mm=l
     ·exact .inl (by omega)
     ·rw[if_neg tn];exact .inr (Ix ha)
    ·cases h
   ·rename_i elem o off len cap hd;split at h
    ·rename_i er l hh m fN hb;obtain ⟨Vm,gA,rfl⟩:=oM1.1 h;simp only[aw] at hx;obtain ⟨a,c,rfl,ha,uR,w4⟩:=hx;have Kz:cap.known=some c\/(cap.known=none/\len<=c):=by
      cases cap with
      | k n=>simp only[] at w4;subst w4;exact .inl rfl
      | grown s=>exact .inr ⟨rfl,uR⟩
     obtain ⟨mm,dB,To,hm,NM,Qa⟩:=qQ (P:=P) (w:=w) (isSlice:=true) hb Kz uR h1 h2 h3;rw[hd];simp only[Instr.slice,Sem.run_bind,bn hE hr w,hd,Result.andThen_ok,dB,bY hE fN w,Sem.run_pure];have F4:(if mm=l then some a else Option.map (fun x=>x.add (l * er.info.size)) (some a))=some (if mm=l then a else a.add (l * er.info.size)):=by
      split<;>rfl
     rw[F4];refine ⟨_,rfl,?_⟩;simp only[aw];refine ⟨_,_,rfl,?_,by omega,?_⟩
     ·by_cases tn:mm=l
      ·exact .inl (by omega)
      ·rw[if_neg tn];refine .inr (Ix (ha.resolve_left ?_));omega
     ·unfold DZ at gA;split at gA
      ·simp only[Option.some.injEq] at gA;subst gA;rcases hm with ⟨k,e,rfl⟩|⟨e,_⟩
       ·cases e;rfl
       ·cases e
      ·split at gA
       ·rename_i s;split at gA
        ·rename_i hs;simp only[Option.some.injEq] at gA;subst gA;rcases hm with ⟨k,e,_⟩|⟨_,_,rfl⟩
         ·cases e
         ·simp only[] at w4 ⊢;have:=nQ1 hs;subst this;refine XI w4 ?_;rw[Nat.sub_mul];have:=Nat.mul_le_mul_right er.info.size (Nat.le_trans To NM);omega
        ·cases gA
       ·cases gA
    ·cases h
   ·rename_i elem len cap hd;split at h
    ·rename_i er l hh m fN hb hle;simp only[Option.some.injEq] at h;subst h;rw[au] at hx;subst hx;obtain ⟨mm,dB,To,hm,NM,Qa⟩:=qQ (P:=P) (w:=w) (isSlice:=true) hb (.inl rfl) (nB1 hle) h1 h2 h3;obtain rfl:mm=m:=by
      rcases hm with ⟨k,e,rfl⟩|⟨e,_⟩
      ·cases e;rfl
      ·cases e
     rw[hd];simp only[Instr.slice,Sem.run_bind,bn hE hr w,hd,Result.andThen_ok,dB,bY hE fN w,Sem.run_pure];refine ⟨_,rfl,?_⟩;rw[au];congr 1;split<;>rfl
    ·cases h
   ·rename_i s hd;split at h
    ·rename_i l hh m hb;simp only[Option.some.injEq] at h;subst h;rw[au] at hx;subst hx;cases mx' with
     | some _=>exact h3.elim
     | none=>
       obtain ⟨mm,dB,To,hm,NM,Qa⟩:=qQ (P:=P) (w:=w) (isSlice:=false) (mx':=none) hb (.inl rfl) (Nat.le_refl _) h1 h2 trivial;rw[hd];simp only[Instr.slice,Sem.run_bind,bn hE hr w,hd,Result.andThen_ok,dB,Sem.run_pure,Option.isSome_none,Bool.false_eq_true,if_false];exact ⟨_,rfl,aS γ _⟩
    ·cases h
   ·cases h
end
