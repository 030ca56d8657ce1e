/- Part of the proof: EvM. Conditions: as each states. -/
import Derived.Test.YtmbdghclhpboaaaGreatPq6
set_option linter.all false
namespace Go.Proofs.YtmbdghclhpboaaaGreat.Ev
theorem Fc(w:World)(b:Nat)(cs:Array Value):DS b w (w.setRow b cs):=
 ⟨rfl,rfl,rfl,by simp[World.setRow],fun c h=>setRow_other w b c cs h⟩
theorem Lu{P:Program}{γ:aT}{w:World}{l vs:List AV}{elem:TypeId}{p:Place}{ys:List Value}{off:Nat}(h:eo γ (.cells l elem) p w)(hl:off+vs.length<=l.length)
  (hv:aG γ vs ys) (h1:vs.all AV.one=true) :
  ∃w',(storeCells ⟨p.block,p.base+off,none⟩ ys).run P w=.ok () w'/\eo γ (.cells (setFrom l off vs) elem) p w'/\DS p.block w w':=by
 obtain ⟨c,hb,⟨hs,hfx⟩,hlen,hc⟩:=h;have Qt:=bB hv;have xa:∀y∈ys,y.oneCell'=true:=by
  intro y hy;obtain ⟨i,hi,e⟩:=List.mem_iff_getElem.1 hy;have Qr:i<vs.length:=by omega
  obtain ⟨x,hx,ll⟩:=dQ hv i vs[i] (by simp[Qr]);rw[List.getElem?_eq_getElem hi,e] at hx;cases hx
  exact D6 ll (List.all_eq_true.1 h1 _ (List.getElem_mem Qr))
 have dB:=run_storeCells_at (P:=P) p.block (p.base+off) elem ys 0 c w hb (by omega) xa;refine ⟨_,dB,?_,Fc w p.block _⟩;rw[Nat.add_zero];have XH:(c.toList.take (p.base+off)++ys++c.toList.drop (p.base+off+ys.length))=setFrom c.toList (p.base+off) ys:=rfl;rw[XH];have yq:c.toList.length=c.size:=by simp
 refine ⟨_,setRow_heap w p.block c _ elem _ hb,?_,?_,?_⟩
 ·simp only[List.size_toArray];rw[gR _ _ _ (by rw[yq];omega),yq,hs];exact ⟨rfl,fun h=>by rw[gR _ _ _ hl];exact hfx h⟩
 ·rw[gR _ _ _ hl];exact hlen
 ·intro i v P6;rw[ki _ _ _ _ hl] at P6;simp only[List.getElem?_toArray];rw[ki _ _ _ _ (by rw[yq];omega)];by_cases iX:off<=i/\i<off+vs.length
  ·rw[if_pos iX] at P6;rw[if_pos (by omega)];obtain ⟨x,hx,ll⟩:=dQ hv _ v P6;exact ⟨x,by rw[show p.base+i - (p.base+off)=i - off by omega];exact hx,ll⟩
  ·rw[if_neg iX] at P6;rw[if_neg (by omega)];obtain ⟨x,hx,ll⟩:=hc i v P6;exact ⟨x,by simpa using hx,ll⟩
theorem aU.store{F:dN}{P:Program}{γ:aT}{σ:AS}{w:World}(h:aU F γ σ w){o off:Nat}{a:Addr}{l vs:List AV}{elem:TypeId}{ys:List Value}(hg:σ.heap.get o=some (.cells l elem))(ha:gY γ o off a)
  (hl:off+vs.length<=l.length) (hv:aG γ vs ys) (h1:vs.all AV.one=true) :
  ∃w',(storeCells a ys).run P w=.ok () w'/\aU F γ { σ with heap:=σ.heap.put o (.cells (setFrom l off vs) elem) } w'/\Step γ σ γ { σ with heap:=σ.heap.put o (.cells (setFrom l off vs) elem) }:=by
 obtain ⟨p,hp,tu⟩:=h.find hg (by simp) ha.ne;obtain rfl:=ha.at hp;obtain ⟨w',h2,h3,h4⟩:=Lu (P:=P) tu hl hv h1;exact ⟨w',h2,h.set hp (by simp) h3 h4,Step.set h _ hp⟩
theorem aU.entries{F:dN}{P:Program}{γ:aT}{σ:AS}{w:World}(h:aU F γ σ w){o r:Nat}{es fs:List (AV×AV×Nat)}{clock clock':Nat}(hg:σ.heap.get o=some (.map es clock))(hr:mw γ o r) :
  ∃es':Array MapEntry,w.heap[r]?=some (.map es' clock)/\bf γ es es'.toList/\∀sR:Array MapEntry,bf γ fs sR.toList ->
   (Go.setObj r (.map sR clock')).run P w=.ok () { w with heap:=w.heap.setIfInBounds r (.map sR clock') }/\aU F γ { σ with heap:=σ.heap.put o (.map fs clock') } { w with heap:=w.heap.setIfInBounds r (.map sR clock') } /\
   Step γ σ γ { σ with heap:=σ.heap.put o (.map fs clock') }:=by
 obtain ⟨p,hp,es',hb,he⟩:=h.find hg (by simp) hr.ne;obtain rfl:=hr.at hp;refine ⟨es',hb,he,fun sR hf=>⟨?_,h.set hp (by simp) ⟨sR,?_,hf⟩ ?_,Step.set h _ hp⟩⟩
 ·simp[Go.setObj,Sem.run,hb]
 ·have:=(Array.getElem?_eq_some_iff.1 hb).1;simp[this]
 ·exact y9 w p.block _
theorem qV{d:TypeDesc}{k:AV}:∀(es:List (AV×AV×Nat)) (i j:Nat) (v:AV),eP d k es i=some (some (j,v))->i<=j/\∃k' b,es[j - i]?=some (k',v,b)/\js d k k'=some true
 | [],i,j,v,h=>by simp[eP] at h
 | (k',u,b)::es,i,j,v,h=>by
   simp only[eP] at h;split at h
   ·rename_i hk;simp only[Option.some.injEq,Prod.mk.injEq] at h;obtain ⟨rfl,rfl⟩:=h;exact ⟨Nat.le_refl _,k',b,by simp,hk⟩
   ·obtain ⟨h1,k2,b2,h2,h3⟩:=qV es (i+1) j v h;refine ⟨by omega,k2,b2,?_,h3⟩;rw[show j - i=(j - (i+1))+1 by omega];simpa using h2
   ·cases h
theorem DY{a b:ByteArray}(h:(a==b)=true):a=b:=by
 cases a;cases b
 simp only[BEq.beq] at h;unfold ByteArray.beq at h;simp at h;rw[h]
theorem bytes_beq(a:ByteArray):(a==a)=true:=by
 cases a
 simp only[BEq.beq];unfold ByteArray.beq;simp
theorem sn{a b:Value}(h:mV a b=some true)(n:Nat):Instr.sameBits n b a=true:=by
 unfold mV at h;split at h
 ·simp only[Option.some.injEq,beq_iff_eq] at h;subst h;unfold Instr.sameBits;simp
 ·split at h
  ·rename_i hk;simp only[Option.some.injEq,beq_iff_eq] at h;subst hk h;unfold Instr.sameBits;simp
  ·cases h
 ·rename_i a b;simp only[Option.some.injEq,beq_iff_eq] at h;have:a=b:=by
   cases a;cases b
   congr 1;exact Array.toList_inj.1 h
  subst this;unfold Instr.sameBits;exact bytes_beq a
 ·cases h
theorem BE:∀{xs ys:List Value} (_:bz (xs.map .lit) (ys.map .lit)=some true) (n:Nat),ys.length=xs.length/\((ys.zip xs).all fun (x,y)=>Instr.sameBits n x y)=true
 | [],[],_,_=>by simp
 | [],_::_,h,_=>by simp[bz] at h
 | _::_,[],h,_=>by simp[bz] at h
 | x::xs,y::ys,h,n=>by
   simp only[List.map_cons,bz] at h;split at h
   ·rename_i p q hp hq;simp only[Option.some.injEq,Bool.and_eq_true] at h;obtain ⟨rfl,rfl⟩:=h;obtain ⟨h1,h2⟩:=BE hq n;exact ⟨by simp[h1],by simp only[List.zip_cons_cons,List.all_cons,Bool.and_eq_true];exact ⟨sn hp n,h2⟩⟩
   ·cases h
theorem Ej{γ:aT}{d:TypeDesc}{a b:AV}{x y:Value}(h:js d a b=some true)(hx:aw γ a x)(hy:aw γ b y):Instr.sameBits 10000 y x=true:=by
 have w8:(10000:Nat)=9999+1:=rfl;rw[w8];generalize 9999=n;unfold js at h;split at h
 ·rw[au] at hx hy;subst hx hy;split at h
  ·rename_i hk;subst hk;simp only[Option.some.injEq,beq_iff_eq] at h;subst h;unfold Instr.sameBits;simp
  ·cases h
 ·rw[au] at hx hy;subst hx hy;simp only[Option.some.injEq] at h;have h:=DY h;subst h;unfold Instr.sameBits;exact bytes_beq _
 ·rw[au] at hx hy;subst hx hy;simp only[Option.some.injEq,beq_iff_eq] at h;subst h;unfold Instr.sameBits;simp
 ·obtain ⟨⟨xs,rfl⟩,ys,rfl⟩:=oc h;simp only[aw] at hx hy;obtain ⟨p,rfl,hp⟩:=hx;obtain ⟨q,rfl,hq⟩:=hy;have e1:=gx hp;have e2:=gx hq;obtain ⟨h1,h2⟩:=BE h n;unfold Instr.sameBits;simp only[Bool.and_eq_true,beq_iff_eq];rw[e1,e2];exact ⟨by rw[<-Array.length_toList,<-Array.length_toList,e1,e2];exact h1,h2⟩
 ·cases h
theorem uX{γ:aT}{k v:AV}{k' v':Value}(hk:aw γ k k')(hv:aw γ v v'):∀{es:List (AV×AV×Nat)} {es':List MapEntry} (i:Nat) {e:AV×AV×Nat},bf γ es es'->es[i]?=some e ->
  bf γ (setAt es i (k,v,e.2.2)) (es'.modify i fun e=>{ e with key:=k',val:=v' })
 | [],_,i,e,_,h=>by simp at h
 | (k0,v0,b0)::es,_,i,e,h,he=>by
   simp only[bf] at h;obtain ⟨k1,v1,rest,rfl,h1,h2,h⟩:=h;cases i with
   | zero=>
     simp only[List.getElem?_cons_zero,Option.some.injEq] at he;subst he;simp only[setAt,bf,List.modify_zero_cons];exact ⟨k',v',rest,rfl,hk,hv,h⟩
   | succ i=>
     simp only[setAt,bf,List.modify_succ_cons];exact ⟨k1,v1,_,rfl,h1,h2,uX hk hv i h (by simpa using he)⟩
theorem uW{γ:aT}:∀{es:List (AV×AV×Nat)} {es':List MapEntry} (i:Nat),bf γ es es'->bf γ (es.eraseIdx i) (es'.eraseIdx i)
 | [],_,i,h=>by simp only[bf] at h;subst h;simp[bf]
 | (k0,v0,b0)::es,_,i,h=>by
   simp only[bf] at h;obtain ⟨k1,v1,rest,rfl,h1,h2,h⟩:=h;cases i with
   | zero=>simpa using h
   | succ i=>simp only[List.eraseIdx_cons_succ,bf];exact ⟨k1,v1,_,rfl,h1,h2,uW i h⟩
theorem jG{γ:aT}(p:Nat->Bool):∀{es:List (AV×AV×Nat)} {es':List MapEntry},bf γ es es'->bf γ (es.filter fun e=>p e.2.2) (es'.filter fun e=>p e.born)
 | [],_,h=>by simp only[bf] at h;subst h;simp[bf]
 | (k0,v0,b0)::es,_,h=>by
   simp only[bf] at h;obtain ⟨k1,v1,rest,rfl,h1,h2,h⟩:=h;simp only[List.filter_cons];cases hp:p b0 with
   | true=>simp only[if_true,bf];exact ⟨k1,v1,_,rfl,h1,h2,jG p h⟩
   | false=>simpa using jG p h
theorem zl{γ:aT}(p:Nat->Bool):∀{es:List (AV×AV×Nat)} {es':List MapEntry},bf γ es es'->(es'.all fun e=>p e.born)=es.all fun e=>p e.2.2
 | [],_,h=>by simp only[bf] at h;subst h;simp
 | (k0,v0,b0)::es,_,h=>by
   simp only[bf] at h;obtain ⟨k1,v1,rest,rfl,h1,h2,h⟩:=h;simp only[List.all_cons,zl p h]
theorem zB{d:TypeDesc}{k:AV}{x y:Value}{b:Bool}{γ:aT}(h:js d k (ofValue y)=some b)(hk:aw γ k x)(hy:tS y=true):b=true↔x=y:=by
 cases y<;>simp only[tS,Bool.false_eq_true] at hy<;>simp only[ofValue] at h<;>unfold js at h<;>split at h
 all_goals first|(cases h;done)|skip
 all_goals first
  | (rename_i k1 u k2 v e
     cases e
     rw[au] at hk
     subst hk
     split at h
     ·rename_i e
      cases h
      subst e
      simp
     ·cases h)
  | (rename_i u v e
     cases e
     rw[au] at hk
     subst hk
     cases h
     simp;done)
  | (rename_i u v e
     cases e
     rw[au] at hk
     subst hk
     cases h
     constructor
     ·intro e;rw[DY e]
     ·intro e;cases e;exact bytes_beq _)
  | (rename_i e;cases e)
theorem mH{α β:Type}(f:α->β):∀(l:List α) (i:Nat),(l.eraseIdx i).map f=(l.map f).eraseIdx i
 | [],_=>rfl
 | a::l,0=>rfl
 | a::l,i+1=>by simp[mH f l i]
theorem IS{d:TypeDesc}{k:AV}{x y:Value}{b:Bool}{γ:aT}(h:js d k (ofValue y)=some b)(hk:aw γ k x)(hx:tS x=true):tS y=true:=by
 unfold js at h;split at h
 ·rename_i e;cases y<;>first|rfl|cases e
 ·rename_i e;cases y<;>first|rfl|cases e
 ·rename_i e;cases y<;>first|rfl|cases e
 ·simp only[aw] at hk;obtain ⟨a,rfl,_⟩:=hk;cases hx
 ·cases h
theorem Ie{es:List (Value×Value)}{i:Nat}{k v:AV}{b:Nat}(h:(uN es)[i]?=some (k,v,b)):∃e,es[i]?=some e/\k=ofValue e.1/\v=ofValue e.2:=by
 unfold uN at h;rw[List.getElem?_map] at h;obtain ⟨e,h1,h2⟩:=oM1.1 h;cases h2
 exact ⟨e,h1,rfl,rfl⟩
theorem zq{d:TypeDesc}{k:AV}:∀(es:List (AV×AV×Nat)) (i:Nat),eP d k es i=some none->∀e∈es,js d k e.1=some false
 | [],i,h=>by simp
 | (k',u,b)::es,i,h=>by
   simp only[eP] at h;split at h
   ·cases h
   ·rename_i hk;intro e he;rcases List.mem_cons.1 he with rfl|he
    ·exact hk
    ·exact zq es (i+1) h e he
   ·cases h
theorem aU.Eo{F:dN}{P:Program}{γ:aT}{σ:AS}{w:World}(h:aU F γ σ w){o r:Nat}{es:List (Value×Value)}(hg:σ.heap.get o=some (.bE es))(hr:mw γ o r) :
  ∃(es':Array MapEntry) (clock:Nat),w.heap[r]?=some (.map es' clock)/\es'.toList.map (fun e=>(e.key,e.val))=es/\((∀e∈es,tS e.1=true)->Go.MapKept.Stamped es' clock)/\∀(fs:List (Value×Value)) (sR:Array MapEntry) (clock':Nat),sR.toList.map (fun e=>(e.key,e.val))=fs->((∀e∈fs,tS e.1=true)->Go.MapKept.Stamped sR clock') ->
   (Go.setObj r (.map sR clock')).run P w=.ok () { w with heap:=w.heap.setIfInBounds r (.map sR clock') }/\aU F γ { σ with heap:=σ.heap.put o (.bE fs) } { w with heap:=w.heap.setIfInBounds r (.map sR clock') } /\
   Step γ σ γ { σ with heap:=σ.heap.put o (.bE fs) }:=by
 obtain ⟨p,hp,es',clock,hb,he,kV⟩:=h.find hg (by simp) hr.ne;obtain rfl:=hr.at hp;refine ⟨es',clock,hb,he,kV,fun fs sR clock' hf Z9=>⟨?_,h.set hp (by simp) ⟨sR,clock',?_,hf,Z9⟩ ?_,Step.set h _ hp⟩⟩
 ·simp[Go.setObj,Sem.run,hb]
 ·have:=(Array.getElem?_eq_some_iff.1 hb).1;simp[this]
 ·exact y9 w p.block _
section
variable{P:Program}{E:Env}(hE:cL P E){F:dN}{γ:aT}{σ:AS}{w:World}
include hE
theorem BA{t:TypeId}{k:AV}{d:TypeDesc}{x:Value}(h:lX E t k=some d)(hx:aw γ k x){es:List (Value×Value)}{es':List MapEntry}{q:Option (Nat×AV)}(he:es'.map (fun e=>(e.key,e.val))=es)
  (hf:eP d k (uN es) 0=some q):∃r',(Instr.findKey t x es').run P w=.ok r' w/\sA γ q r':=by
 obtain ⟨h1,h2⟩:=sJ γ es';refine iR hE h hx h1 ((pB _ _ 0 ?_).trans hf);rw[h2,<-he];simp[uN]
theorem zD(hR:aU F γ σ w){ty kt et:TypeId}{r:dd}(hr:E.ty ty=some r)(hd:r.bp=.map kt et){o:Nat}{k v:AV}{d:TypeDesc}{es:List (Value×Value)}(iY:lX E kt k=some d)(hg:σ.heap.get o=some (.bE es)){kv vv:Value}(Tm:k.flat=some kv)(KS:v.flat=some vv){q:Option (Nat×AV)}(hf:eP d k (uN es) 0=some q){m' k' v':Value}(hm:aw γ (.map o) m')(hk:aw γ k k')(hv:aw γ v v') :
  ∃w',(Instr.mapUpdate ty m' k' v').run P w=.ok () w'/\aU F γ { σ with heap:=σ.heap.put o (.bE (match q with|some (i,_)=>es.set i (kv,vv)|none=>es++[(kv,vv)])) } w'/\Step γ σ γ { σ with heap:=σ.heap.put o (.bE (match q with|some (i,_)=>es.set i (kv,vv)|none=>es++[(kv,vv)])) }:=by
 simp only[aw] at hm;obtain ⟨b,rfl,hb⟩:=hm;obtain rfl:=jI k kv k' Tm hk;obtain rfl:=jI v vv v' KS hv;unfold Instr.mapUpdate;simp only[Sem.run_bind,bn hE hr w,Result.andThen_ok,hd];obtain ⟨es',clock,hw,he,kV,fP⟩:=aU.Eo (P:=P) hR hg hb;obtain ⟨r',h1,h2⟩:=BA hE (w:=w) iY hk he hf;have ph:(getObj b).run P w=.ok (.map es' clock) w:=by simp[getObj,Sem.run,hw]
 cases q with
 | some q=>
   obtain ⟨i,u⟩:=q;obtain ⟨_,k0,b0,hi,ql⟩:=qV (uN es) 0 i u hf;rw[Nat.sub_zero] at hi;obtain ⟨e0,g9,rfl,rfl⟩:=Ie hi;cases r' with
   | none=>exact h2.elim
   | some r'=>
     obtain ⟨j,u'⟩:=r';obtain ⟨rfl,_⟩:=h2;have P5:∃e1,es'[i]?=some e1/\e1.key=e0.1:=by
      rw[<-he,List.getElem?_map] at g9;obtain ⟨e1,h3,h4⟩:=oM1.1 g9;exact ⟨e1,by simpa using h3,congrArg Prod.fst h4⟩
     obtain ⟨e1,lp,ti⟩:=P5;have pQ:=Ej ql hk (dg γ e0.1);have ZP:(es'.modify i fun e=>{ e with key:=k',val:=v' }).toList.map (fun e=>(e.key,e.val))=es.set i (k',v'):=by
      rw[<-he];apply List.ext_getElem?;intro j;rw[List.getElem?_map,List.getElem?_set,List.getElem?_map,Array.toList_modify,List.getElem?_modify,List.length_map];by_cases pS:i=j
      ·subst pS;have hl:=(Array.getElem?_eq_some_iff.1 lp).1;rw[if_pos rfl,if_pos (by simpa using hl)];have:es'.toList[i]?=some e1:=by simpa using lp
       rw[this];simp
      ·rw[if_neg pS];cases es'.toList[j]?<;>simp[pS]
     obtain ⟨s1,s2,s3⟩:=fP (es.set i (k',v')) (es'.modify i fun e=>{ e with key:=k',val:=v' }) clock ZP fun hs=>by
      have hlen:=(lE1.1 g9).1;have gl:k'=e0.1:=by
       have h3:=hs (k',v') (List.mem_iff_getElem?.2 ⟨i,by simp[hlen]⟩);exact (zB ql hk (IS ql hk h3)).1 rfl
      refine Go.MapKept.stamped_modify (kV fun e he=>?_) i _ (fun _ _=>rfl) (fun e' _ ZD=>by rw[lp] at ZD;cases ZD;rw[ti];exact gl);obtain ⟨j,hj⟩:=List.mem_iff_getElem?.1 he;by_cases pS:i=j
      ·subst pS;rw[g9] at hj;cases hj
       rw[<-gl];exact hs (k',v') (List.mem_iff_getElem?.2 ⟨i,by simp[hlen]⟩)
      ·exact hs e (List.mem_iff_getElem?.2 ⟨j,by rw[List.getElem?_set,if_neg pS];exact hj⟩)
     refine ⟨_,?_,s2,s3⟩;simp only[ph,Sem.run_bind,Result.andThen_ok,fX hE (w:=w) iY hk,h1,lp,Option.map_some,Option.getD_some,Sem.run_bind,Instr.keyThatStays,ti,pQ,if_true,Sem.run_pure,s1]
 | none=>
   cases r' with
   | some r'=>exact h2.elim
   | none=>
     obtain ⟨s1,s2,s3⟩:=fP (es++[(k',v')]) (es'.push { key:=k',val:=v',born:=clock }) (clock+1) (by simp[he]) fun hs=>by
      refine Go.MapKept.stamped_push (kV fun e he=>hs e (by simp[he])) fun x hx e=>?_;have iS:(x.key,x.val)∈es:=by rw[<-he];exact List.mem_map.2 ⟨x,hx,rfl⟩
      have h3:=zq (uN es) 0 hf (ofValue x.key,ofValue x.val,0) (List.mem_map.2 ⟨_,iS,rfl⟩);have h4:=(zB h3 hk (hs (x.key,x.val) (by simp[iS]))).2 e.symm;cases h4
     refine ⟨_,?_,s2,s3⟩;simp only[ph,Sem.run_bind,Result.andThen_ok,fX hE (w:=w) iY hk,h1,s1]
theorem zC(hR:aU F γ σ w){ty kt et:TypeId}{r:dd}(hr:E.ty ty=some r)(hd:r.bp=.map kt et){o:Nat}{k:AV}{d:TypeDesc}{es:List (Value×Value)}(iY:lX E kt k=some d)(Qo:GA d=true)(hg:σ.heap.get o=some (.bE es)){q:Option (Nat×AV)}(hf:eP d k (uN es) 0=some q){m' k':Value}(hm:aw γ (.map o) m')(hk:aw γ k k'){ts:Array TypeId}{tt:TypeId}{ys:Array Value}
  (h0:ts[0]?=some ty) (h1:ys[0]?=some m') (h2:ys[1]?=some k') :
  ∃w',(Builtin.delete_ ts tt ys).run P w=.ok (.tuple #[]) w'/\aU F γ { σ with heap:=σ.heap.put o (.bE (match q with|some (i,_)=>es.eraseIdx i|none=>es)) } w'/\Step γ σ γ { σ with heap:=σ.heap.put o (.bE (match q with|some (i,_)=>es.eraseIdx i|none=>es)) }:=by
 simp only[aw] at hm;obtain ⟨b,rfl,hb⟩:=hm;unfold Builtin.delete_;simp only[h0,h1,h2,Sem.run_bind,bn hE hr w,Result.andThen_ok,hd];obtain ⟨es',clock,hw,he,kV,fP⟩:=aU.Eo (P:=P) hR hg hb;obtain ⟨r',h1,h2⟩:=BA hE (w:=w) iY hk he hf;have ph:(getObj b).run P w=.ok (.map es' clock) w:=by simp[getObj,Sem.run,hw]
 cases q with
 | some q=>
   obtain ⟨i,u⟩:=q;obtain ⟨_,k0,b0,hi,ql⟩:=qV (uN es) 0 i u hf;rw[Nat.sub_zero] at hi;obtain ⟨e0,g9,rfl,rfl⟩:=Ie hi;cases r' with
   | none=>exact h2.elim
   | some r'=>
     obtain ⟨j,u'⟩:=r';obtain ⟨rfl,_⟩:=h2;have Eh:tS e0.1=true:=by
      unfold js at ql;split at ql
      ·rename_i e;revert e;cases e0.1<;>intro e<;>first|rfl|cases e
      ·rename_i e;revert e;cases e0.1<;>intro e<;>first|rfl|cases e
      ·rename_i e;revert e;cases e0.1<;>intro e<;>first|rfl|cases e
      ·cases Qo
      ·cases ql
     obtain ⟨s1,s2,s3⟩:=fP (es.eraseIdx i) (es'.eraseIdxIfInBounds i) clock (by
      have:(es'.eraseIdxIfInBounds i).toList=es'.toList.eraseIdx i:=by simp
      rw[this,<-he,mH]) fun hs=>Go.MapKept.stamped_erase (kV fun e he=>by
       obtain ⟨j,hj⟩:=List.mem_iff_getElem?.1 he;by_cases pS:i=j
       ·subst pS;rw[g9] at hj;cases hj;exact Eh
       ·exact hs e (List.mem_eraseIdx_iff_getElem?.2 ⟨j,Ne.symm pS,hj⟩)) i
     refine ⟨_,?_,s2,s3⟩;simp only[ph,Sem.run_bind,Result.andThen_ok,fX hE (w:=w) iY hk,h1,s1,Sem.run_pure]
 | none=>
   cases r' with
   | some r'=>exact h2.elim
   | none=>
     obtain ⟨s1,s2,s3⟩:=fP es es' clock he kV;refine ⟨_,?_,s2,s3⟩;simp only[ph,Sem.run_bind,Result.andThen_ok,fX hE (w:=w) iY hk,h1,s1,Sem.run_pure]
end
section
variable{F:dN}{P:Program}{E:Env}(hE:cL P E){γ:aT}{σ:AS}{w:World}{t:aE}{ρ:Operand->Value}
include hE
theorem OD(hR:aU F γ σ w){ty:TypeId}{a v:AV}{cJ:AS}(h:xT E σ ty a v=some cJ){a' v':Value}(ha:aw γ a a')(hv:aw γ v v') :
  ∃w',(Instr.storeAt ty a' v').run P w=.ok () w'/\aU F γ cJ w'/\Step γ σ γ cJ:=by
 unfold xT at h;split at h
 ·rename_i o off r hr;split at h
  ·rename_i l elem hg;split at h
   ·rename_i hb;simp only[Bool.and_eq_true] at hb;obtain ⟨⟨iW,lJ⟩,lU⟩:=hb;have iW:=nQ1 iW;have lU:=nB1 lU;simp only[Option.some.injEq] at h;subst h;simp only[aw] at ha;obtain ⟨ad,rfl,dO⟩:=ha;have F8:=fH hv;have hvl:v'.cells.size=v.cells.length:=by simpa using bB F8
    obtain ⟨w',h1,h2,h3⟩:=aU.store (P:=P) hR hg dO (by rw[iW];exact lU) F8 lJ;refine ⟨w',?_,h2,h3⟩;unfold Instr.storeAt storeVar;have aP:¬(v'.cells.size≠r.info.size):=by omega
    simp only[Instr.sureAddr,Sem.run_bind,Sem.run_pure,Result.andThen_ok,bY hE hr w,if_neg aP,h1]
   ·cases h
  ·cases h
 ·cases h
theorem Df(hR:aU F γ σ w){ty:TypeId}{m k v:AV}{cJ:AS}(h:qJ E σ ty m k v=some cJ){m' k' v':Value}(hm:aw γ m m')(hk:aw γ k k')(hv:aw γ v v') :
  ∃w',(Instr.mapUpdate ty m' k' v').run P w=.ok () w'/\aU F γ cJ w'/\Step γ σ γ cJ:=by
 unfold qJ at h;cases hr:E.ty ty with
 | none=>rw[hr] at h;cases h
 | some r=>
   rw[hr] at h;simp only[] at h;split at h
   ·rename_i kt et o hd;split at h
    ·rename_i d es clock iY hg;simp only[aw] at hm;obtain ⟨b,rfl,hb⟩:=hm;unfold Instr.mapUpdate;simp only[Sem.run_bind,bn hE hr w,Result.andThen_ok,hd];split at h
     ·rename_i i u hf;simp only[Option.some.injEq] at h;subst h;obtain ⟨_,k0,b0,hi,ql⟩:=qV es 0 i u hf;rw[Nat.sub_zero] at hi;obtain ⟨es',hw,he,fP⟩:=aU.entries (P:=P) (fs:=setAt es i (k,v,b0)) (clock':=clock) hR hg hb;obtain ⟨r',h1,h2⟩:=iR hE (w:=w) iY hk he hf;cases r' with
      | none=>exact h2.elim
      | some r'=>
        obtain ⟨j,u'⟩:=r';obtain ⟨rfl,_⟩:=h2;obtain ⟨k1,v1,kU,eQ,_⟩:=zm he i _ hi;have hi'':es'[i]?=some ⟨k1,v1,b0⟩:=by simpa using kU
        have pQ:=Ej ql hk eQ;have ph:(getObj b).run P w=.ok (.map es' clock) w:=by simp[getObj,Sem.run,hw]
        obtain ⟨s1,s2,s3⟩:=fP (es'.modify i fun e=>{ e with key:=k',val:=v' }) (by rw[Array.toList_modify];exact uX hk hv i he hi);have Td:Fq es i=b0:=by unfold Fq;rw[hi]
        refine ⟨_,?_,by rw[Td];exact s2,by rw[Td];exact s3⟩;simp only[ph,Sem.run_bind,Result.andThen_ok,fX hE (w:=w) iY hk,h1,hi'',Option.map_some,Option.getD_some,Sem.run_bind,Instr.keyThatStays,pQ,if_true,Sem.run_pure,s1]
     ·rename_i hf;simp only[Option.some.injEq] at h;subst h;obtain ⟨es',hw,he,fP⟩:=aU.entries (P:=P) (fs:=es++[(k,v,clock)]) (clock':=clock+1) hR hg hb;obtain ⟨r',h1,h2⟩:=iR hE (w:=w) iY hk he hf;cases r' with
      | some r'=>exact h2.elim
      | none=>
        have ph:(getObj b).run P w=.ok (.map es' clock) w:=by simp[getObj,Sem.run,hw]
        obtain ⟨s1,s2,s3⟩:=fP (es'.push { key:=k',val:=v',born:=clock }) (by rw[Array.toList_push];exact sI he (by simp only[bf];exact ⟨k',v',[],rfl,hk,hv,rfl⟩));refine ⟨_,?_,s2,s3⟩;simp only[ph,Sem.run_bind,Result.andThen_ok,fX hE (w:=w) iY hk,h1,s1]
     ·cases h
    ·rename_i d es iY hg;split at h
     ·rename_i kv vv Tm KS;split at h
      ·rename_i i u hf;simp only[Option.some.injEq] at h;subst h;exact zD hE hR hr hd iY hg Tm KS hf hm hk hv
      ·rename_i hf;simp only[Option.some.injEq] at h;subst h;exact zD hE hR hr hd iY hg Tm KS hf hm hk hv
      ·cases h
     ·cases h
    ·cases h
   ·cases h
theorem Kn(hR:aU F γ σ w){ty:TypeId}{m k:AV}{cJ:AS}(h:wL E σ ty m k=some cJ){m' k':Value}(hm:aw γ m m')(hk:aw γ k k'){ts:Array TypeId}{tt:TypeId}{ys:Array Value}
  (h0:ts[0]?=some ty) (h1:ys[0]?=some m') (h2:ys[1]?=some k') :
  ∃w',(Builtin.delete_ ts tt ys).run P w=.ok (.tuple #[]) w'/\aU F γ cJ w'/\Step γ σ γ cJ:=by
 unfold wL at h;cases hr:E.ty ty with
 | none=>rw[hr] at h;cases h
 | some r=>
   rw[hr] at h;simp only[] at h;split at h
   ·rename_i kt et o hd;split at h
    ·rename_i d es clock iY hg;simp only[aw] at hm;obtain ⟨b,rfl,hb⟩:=hm;unfold Builtin.delete_;simp only[h0,h1,h2,Sem.run_bind,bn hE hr w,Result.andThen_ok,hd];split at h
     ·rename_i i u hf;simp only[Option.some.injEq] at h;subst h;obtain ⟨es',hw,he,fP⟩:=aU.entries (P:=P) (fs:=es.eraseIdx i) (clock':=clock) hR hg hb;obtain ⟨r',h1,h2⟩:=iR hE (w:=w) iY hk he hf;cases r' with
      | none=>exact h2.elim
      | some r'=>
        obtain ⟨j,u'⟩:=r';obtain ⟨rfl,_⟩:=h2;have ph:(getObj b).run P w=.ok (.map es' clock) w:=by simp[getObj,Sem.run,hw]
        obtain ⟨s1,s2,s3⟩:=fP (es'.eraseIdxIfInBounds i) (by
         have:(es'.eraseIdxIfInBounds i).toList=es'.toList.eraseIdx i:=by simp
         rw[this];exact uW i he)
        refine ⟨_,?_,s2,s3⟩;simp only[ph,Sem.run_bind,Result.andThen_ok,fX hE (w:=w) iY hk,h1,s1,Sem.run_pure]
     ·rename_i hf;simp only[Option.some.injEq] at h;subst h;obtain ⟨es',hw,he,fP⟩:=aU.entries (P:=P) (fs:=es) (clock':=clock) hR hg hb;obtain ⟨r',h1,h2⟩:=iR hE (w:=w) iY hk he hf;cases r' with
      | some r'=>exact h2.elim
      | none=>
        have ph:(getObj b).run P w=.ok (.map es' clock) w:=by simp[getObj,Sem.run,hw]
        obtain ⟨s1,s2,s3⟩:=fP es' he;refine ⟨_,?_,s2,s3⟩;simp only[ph,Sem.run_bind,Result.andThen_ok,fX hE (w:=w) iY hk,h1,s1,Sem.run_pure]
     ·cases h
    ·rename_i d es iY hg;split at h
     ·rename_i i u Qo hf;simp only[Option.some.injEq] at h;subst h;exact zC hE hR hr hd iY Qo hg hf hm hk h0 h1 h2
     ·rename_i Qo hf;simp only[Option.some.injEq] at h;subst h;exact zC hE hR hr hd iY Qo hg hf hm hk h0 h1 h2
     ·cases h
    ·cases h
   ·cases h
end
