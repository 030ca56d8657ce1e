/- Part of the proof: EvM. Conditions: as each states. -/
import Derived.Test.YtmbdghclhpboaaaGreatPw6
set_option linter.all false
namespace Go.Proofs.YtmbdghclhpboaaaGreat.Ev
theorem D5(w:World)(b:Nat)(cs:Array Value):CM b w (w.setRow b cs):=
 ⟨rfl,rfl,rfl,by simp[World.setRow],fun c h=>setRow_other w b c cs h⟩
theorem JZ{P:Program}{γ:aK}{w:World}{l vs:List AV}{elem:TypeId}{p:Place}{ys:List Value}{off:Nat}(h:dI γ (.cells l elem) p w)(hl:off+vs.length<=l.length)
  (hv:az γ vs ys) (h1:vs.all AV.one=true) :
  ∃w',(storeCells ⟨p.block,p.base+off,none⟩ ys).run P w=.ok () w'/\dI γ (.cells (setFrom l off vs) elem) p w'/\CM p.block w w':=by
 obtain ⟨c,hb,⟨hs,Y1⟩,hlen,hc⟩:=h;have Hb:=bp hv;have wi:∀y∈ys,y.oneCell'=true:=by
  intro y hy;obtain ⟨i,hi,e⟩:=List.mem_iff_getElem.1 hy;have Ok:i<vs.length:=by omega
  obtain ⟨x,hx,kA⟩:=dq hv i vs[i] (by simp[Ok]);rw[List.getElem?_eq_getElem hi,e] at hx;cases hx
  exact C3 kA (List.all_eq_true.1 h1 _ (List.getElem_mem Ok))
 have cW:=run_storeCells_at (P:=P) p.block (p.base+off) elem ys 0 c w hb (by omega) wi;refine ⟨_,cW,?_,D5 w p.block _⟩;rw[Nat.add_zero];have U5:(c.toList.take (p.base+off)++ys++c.toList.drop (p.base+off+ys.length))=setFrom c.toList (p.base+off) ys:=rfl;rw[U5];have uT:c.toList.length=c.size:=by simp
 refine ⟨_,setRow_heap w p.block c _ elem _ hb,?_,?_,?_⟩
 ·simp only[List.size_toArray];rw[gu _ _ _ (by rw[uT];omega),uT,hs];exact ⟨rfl,fun h=>by rw[gu _ _ _ hl];exact Y1 h⟩
 ·rw[gu _ _ _ hl];exact hlen
 ·intro i v N0;rw[jB _ _ _ _ hl] at N0;simp only[List.getElem?_toArray];rw[jB _ _ _ _ (by rw[uT];omega)];by_cases im:off<=i/\i<off+vs.length
  ·rw[if_pos im] at N0;rw[if_pos (by omega)];obtain ⟨x,hx,kA⟩:=dq hv _ v N0;exact ⟨x,by rw[show p.base+i - (p.base+off)=i - off by omega];exact hx,kA⟩
  ·rw[if_neg im] at N0;rw[if_neg (by omega)];obtain ⟨x,hx,kA⟩:=hc i v N0;exact ⟨x,by simpa using hx,kA⟩
theorem aL.store{F:di}{P:Program}{γ:aK}{σ:AS}{w:World}(h:aL F γ σ w){o off:Nat}{a:Addr}{l vs:List AV}{elem:TypeId}{ys:List Value}(hg:σ.heap.get o=some (.cells l elem))(ha:gz γ o off a)
  (hl:off+vs.length<=l.length) (hv:az γ vs ys) (h1:vs.all AV.one=true) :
  ∃w',(storeCells a ys).run P w=.ok () w'/\aL F γ { σ with heap:=σ.heap.put o (.cells (setFrom l off vs) elem) } w'/\Step γ σ γ { σ with heap:=σ.heap.put o (.cells (setFrom l off vs) elem) }:=by
 obtain ⟨p,hp,sh⟩:=h.find hg (by simp) ha.ne;obtain rfl:=ha.at hp;obtain ⟨w',h2,h3,h4⟩:=JZ (P:=P) sh hl hv h1;exact ⟨w',h2,h.set hp (by simp) h3 h4,Step.set h _ hp⟩
theorem aL.entries{F:di}{P:Program}{γ:aK}{σ:AS}{w:World}(h:aL F γ σ w){o r:Nat}{es fs:List (AV×AV×Nat)}{clock clock':Nat}(hg:σ.heap.get o=some (.map es clock))(hr:lQ γ o r) :
  ∃es':Array MapEntry,w.heap[r]?=some (.map es' clock)/\aX γ es es'.toList/\∀rT:Array MapEntry,aX γ fs rT.toList ->
   (Go.setObj r (.map rT clock')).run P w=.ok () { w with heap:=w.heap.setIfInBounds r (.map rT clock') }/\aL F γ { σ with heap:=σ.heap.put o (.map fs clock') } { w with heap:=w.heap.setIfInBounds r (.map rT clock') } /\
   Step γ σ γ { σ with heap:=σ.heap.put o (.map fs clock') }:=by
 obtain ⟨p,hp,es',hb,he⟩:=h.find hg (by simp) hr.ne;obtain rfl:=hr.at hp;refine ⟨es',hb,he,fun rT hf=>⟨?_,h.set hp (by simp) ⟨rT,?_,hf⟩ ?_,Step.set h _ hp⟩⟩
 ·simp[Go.setObj,Sem.run,hb]
 ·have:=(Array.getElem?_eq_some_iff.1 hb).1;simp[this]
 ·exact ya w p.block _
end Go.Proofs.YtmbdghclhpboaaaGreat.Ev
namespace Go.Proofs.YtmbdghclhpboaaaGreat.Ev
theorem qd{d:TypeDesc}{k:AV}:∀(es:List (AV×AV×Nat)) (i j:Nat) (v:AV),dZ d k es i=some (some (j,v))->i<=j/\∃k' b,es[j - i]?=some (k',v,b)/\iO d k k'=some true
 | [],i,j,v,h=>by simp[dZ] at h
 | (k',u,b)::es,i,j,v,h=>by
   simp only[dZ] at h;split at h
   ·rename_i hk;simp only[Option.some.injEq,Prod.mk.injEq] at h;obtain ⟨rfl,rfl⟩:=h;exact ⟨Nat.le_refl _,k',b,by simp,hk⟩
   ·obtain ⟨h1,k2,b2,h2,h3⟩:=qd es (i+1) j v h;refine ⟨by omega,k2,b2,?_,h3⟩;rw[show j - i=(j - (i+1))+1 by omega];simpa using h2
   ·cases h
theorem CT{a b:ByteArray}(h:(a==b)=true):a=b:=by
 cases a;cases b
 simp only[BEq.beq] at h;unfold ByteArray.beq at h;simp at h;rw[h]
theorem bytes_beq(a:ByteArray):(a==a)=true:=by
 cases a
 simp only[BEq.beq];unfold ByteArray.beq;simp
theorem ry{a b:Value}(h:mb a b=some true)(n:Nat):Instr.sameBits n b a=true:=by
 unfold mb at h;split at h
 ·simp only[Option.some.injEq,beq_iff_eq] at h;subst h;unfold Instr.sameBits;simp
 ·split at h
  ·rename_i hk;simp only[Option.some.injEq,beq_iff_eq] at h;subst hk h;unfold Instr.sameBits;simp
  ·cases h
 ·rename_i a b;simp only[Option.some.injEq,beq_iff_eq] at h;have:a=b:=by
   cases a;cases b
   congr 1;exact Array.toList_inj.1 h
  subst this;unfold Instr.sameBits;exact bytes_beq a
 ·cases h
theorem Av:∀{xs ys:List Value} (_:bn (xs.map .lit) (ys.map .lit)=some true) (n:Nat),ys.length=xs.length/\((ys.zip xs).all fun (x,y)=>Instr.sameBits n x y)=true
 | [],[],_,_=>by simp
 | [],_::_,h,_=>by simp[bn] at h
 | _::_,[],h,_=>by simp[bn] at h
 | x::xs,y::ys,h,n=>by
   simp only[List.map_cons,bn] at h;split at h
   ·rename_i p q hp hq;simp only[Option.some.injEq,Bool.and_eq_true] at h;obtain ⟨rfl,rfl⟩:=h;obtain ⟨h1,h2⟩:=Av hq n;exact ⟨by simp[h1],by simp only[List.zip_cons_cons,List.all_cons,Bool.and_eq_true];exact ⟨ry hp n,h2⟩⟩
   ·cases h
theorem Dh{γ:aK}{d:TypeDesc}{a b:AV}{x y:Value}(h:iO d a b=some true)(hx:an γ a x)(hy:an γ b y):Instr.sameBits 10000 y x=true:=by
 have we:(10000:Nat)=9999+1:=rfl;rw[we];generalize 9999=n;unfold iO at h;split at h
 ·rw[al] at hx hy;subst hx hy;split at h
  ·rename_i hk;subst hk;simp only[Option.some.injEq,beq_iff_eq] at h;subst h;unfold Instr.sameBits;simp
  ·cases h
 ·rw[al] at hx hy;subst hx hy;simp only[Option.some.injEq] at h;have h:=CT h;subst h;unfold Instr.sameBits;exact bytes_beq _
 ·rw[al] at hx hy;subst hx hy;simp only[Option.some.injEq,beq_iff_eq] at h;subst h;unfold Instr.sameBits;simp
 ·obtain ⟨⟨xs,rfl⟩,ys,rfl⟩:=nh h;simp only[an] at hx hy;obtain ⟨p,rfl,hp⟩:=hx;obtain ⟨q,rfl,hq⟩:=hy;have e1:=fR hp;have e2:=fR hq;obtain ⟨h1,h2⟩:=Av h n;unfold Instr.sameBits;simp only[Bool.and_eq_true,beq_iff_eq];rw[e1,e2];exact ⟨by rw[<-Array.length_toList,<-Array.length_toList,e1,e2];exact h1,h2⟩
 ·cases h
theorem uo{γ:aK}{k v:AV}{k' v':Value}(hk:an γ k k')(hv:an γ v v'):∀{es:List (AV×AV×Nat)} {es':List MapEntry} (i:Nat) {e:AV×AV×Nat},aX γ es es'->es[i]?=some e ->
  aX γ (setAt es i (k,v,e.2.2)) (es'.modify i fun e=>{ e with key:=k',val:=v' })
 | [],_,i,e,_,h=>by simp at h
 | (k0,v0,b0)::es,_,i,e,h,he=>by
   simp only[aX] at h;obtain ⟨k1,v1,rest,rfl,h1,h2,h⟩:=h;cases i with
   | zero=>
     simp only[List.getElem?_cons_zero,Option.some.injEq] at he;subst he;simp only[setAt,aX,List.modify_zero_cons];exact ⟨k',v',rest,rfl,hk,hv,h⟩
   | succ i=>
     simp only[setAt,aX,List.modify_succ_cons];exact ⟨k1,v1,_,rfl,h1,h2,uo hk hv i h (by simpa using he)⟩
theorem um{γ:aK}:∀{es:List (AV×AV×Nat)} {es':List MapEntry} (i:Nat),aX γ es es'->aX γ (es.eraseIdx i) (es'.eraseIdx i)
 | [],_,i,h=>by simp only[aX] at h;subst h;simp[aX]
 | (k0,v0,b0)::es,_,i,h=>by
   simp only[aX] at h;obtain ⟨k1,v1,rest,rfl,h1,h2,h⟩:=h;cases i with
   | zero=>simpa using h
   | succ i=>simp only[List.eraseIdx_cons_succ,aX];exact ⟨k1,v1,_,rfl,h1,h2,um i h⟩
theorem iX{γ:aK}(p:Nat->Bool):∀{es:List (AV×AV×Nat)} {es':List MapEntry},aX γ es es'->aX γ (es.filter fun e=>p e.2.2) (es'.filter fun e=>p e.born)
 | [],_,h=>by simp only[aX] at h;subst h;simp[aX]
 | (k0,v0,b0)::es,_,h=>by
   simp only[aX] at h;obtain ⟨k1,v1,rest,rfl,h1,h2,h⟩:=h;simp only[List.filter_cons];cases hp:p b0 with
   | true=>simp only[if_true,aX];exact ⟨k1,v1,_,rfl,h1,h2,iX p h⟩
   | false=>simpa using iX p h
theorem yn{γ:aK}(p:Nat->Bool):∀{es:List (AV×AV×Nat)} {es':List MapEntry},aX γ es es'->(es'.all fun e=>p e.born)=es.all fun e=>p e.2.2
 | [],_,h=>by simp only[aX] at h;subst h;simp
 | (k0,v0,b0)::es,_,h=>by
   simp only[aX] at h;obtain ⟨k1,v1,rest,rfl,h1,h2,h⟩:=h;simp only[List.all_cons,yn p h]
theorem yB{d:TypeDesc}{k:AV}{x y:Value}{b:Bool}{γ:aK}(h:iO d k (ofValue y)=some b)(hk:an γ k x)(hy:sL y=true):b=true↔x=y:=by
 cases y<;>simp only[sL,Bool.false_eq_true] at hy<;>simp only[ofValue] at h<;>unfold iO at h<;>split at h
 all_goals first|(cases h;done)|skip
 all_goals first
  | (rename_i k1 u k2 v e
     cases e
     rw[al] at hk
     subst hk
     split at h
     ·rename_i e
      cases h
      subst e
      simp
     ·cases h)
  | (rename_i u v e
     cases e
     rw[al] at hk
     subst hk
     cases h
     simp;done)
  | (rename_i u v e
     cases e
     rw[al] at hk
     subst hk
     cases h
     constructor
     ·intro e;rw[CT e]
     ·intro e;cases e;exact bytes_beq _)
  | (rename_i e;cases e)
theorem lV{α β:Type}(f:α->β):∀(l:List α) (i:Nat),(l.eraseIdx i).map f=(l.map f).eraseIdx i
 | [],_=>rfl
 | a::l,0=>rfl
 | a::l,i+1=>by simp[lV f l i]
theorem He{d:TypeDesc}{k:AV}{x y:Value}{b:Bool}{γ:aK}(h:iO d k (ofValue y)=some b)(hk:an γ k x)(hx:sL x=true):sL y=true:=by
 unfold iO at h;split at h
 ·rename_i e;cases y<;>first|rfl|cases e
 ·rename_i e;cases y<;>first|rfl|cases e
 ·rename_i e;cases y<;>first|rfl|cases e
 ·simp only[an] at hk;obtain ⟨a,rfl,_⟩:=hk;cases hx
 ·cases h
theorem Gp{es:List (Value×Value)}{i:Nat}{k v:AV}{b:Nat}(h:(tI es)[i]?=some (k,v,b)):∃e,es[i]?=some e/\k=ofValue e.1/\v=ofValue e.2:=by
 unfold tI at h;rw[List.getElem?_map] at h;obtain ⟨e,h1,h2⟩:=Option.map_eq_some_iff.1 h;cases h2
 exact ⟨e,h1,rfl,rfl⟩
theorem yr{d:TypeDesc}{k:AV}:∀(es:List (AV×AV×Nat)) (i:Nat),dZ d k es i=some none->∀e∈es,iO d k e.1=some false
 | [],i,h=>by simp
 | (k',u,b)::es,i,h=>by
   simp only[dZ] at h;split at h
   ·cases h
   ·rename_i hk;intro e he;rcases List.mem_cons.1 he with rfl|he
    ·exact hk
    ·exact yr es (i+1) h e he
   ·cases h
theorem aL.Dl{F:di}{P:Program}{γ:aK}{σ:AS}{w:World}(h:aL F γ σ w){o r:Nat}{es:List (Value×Value)}(hg:σ.heap.get o=some (.br es))(hr:lQ γ o r) :
  ∃(es':Array MapEntry) (clock:Nat),w.heap[r]?=some (.map es' clock)/\es'.toList.map (fun e=>(e.key,e.val))=es/\((∀e∈es,sL e.1=true)->Go.MapKept.Stamped es' clock)/\∀(fs:List (Value×Value)) (rT:Array MapEntry) (clock':Nat),rT.toList.map (fun e=>(e.key,e.val))=fs->((∀e∈fs,sL e.1=true)->Go.MapKept.Stamped rT clock') ->
   (Go.setObj r (.map rT clock')).run P w=.ok () { w with heap:=w.heap.setIfInBounds r (.map rT clock') }/\aL F γ { σ with heap:=σ.heap.put o (.br fs) } { w with heap:=w.heap.setIfInBounds r (.map rT clock') } /\
   Step γ σ γ { σ with heap:=σ.heap.put o (.br fs) }:=by
 obtain ⟨p,hp,es',clock,hb,he,lq⟩:=h.find hg (by simp) hr.ne;obtain rfl:=hr.at hp;refine ⟨es',clock,hb,he,lq,fun fs rT clock' hf Xz=>⟨?_,h.set hp (by simp) ⟨rT,clock',?_,hf,Xz⟩ ?_,Step.set h _ hp⟩⟩
 ·simp[Go.setObj,Sem.run,hb]
 ·have:=(Array.getElem?_eq_some_iff.1 hb).1;simp[this]
 ·exact ya w p.block _
section
variable{P:Program}{E:Env}(hE:ch P E){F:di}{γ:aK}{σ:AS}{w:World}
include hE
theorem Ar{t:TypeId}{k:AV}{d:TypeDesc}{x:Value}(h:lu E t k=some d)(hx:an γ k x){es:List (Value×Value)}{es':List MapEntry}{q:Option (Nat×AV)}(he:es'.map (fun e=>(e.key,e.val))=es)
  (hf:dZ d k (tI es) 0=some q):∃r',(Instr.findKey t x es').run P w=.ok r' w/\rC γ q r':=by
 obtain ⟨h1,h2⟩:=rL γ es';refine hZ hE h hx h1 ((oO _ _ 0 ?_).trans hf);rw[h2,<-he];simp[tI]
theorem yE(hR:aL F γ σ w){ty kt et:TypeId}{r:cZ}(hr:E.ty ty=some r)(hd:r.bg=.map kt et){o:Nat}{k v:AV}{d:TypeDesc}{es:List (Value×Value)}(iq:lu E kt k=some d)(hg:σ.heap.get o=some (.br es)){kv vv:Value}(QN:k.flat=some kv)(Js:v.flat=some vv){q:Option (Nat×AV)}(hf:dZ d k (tI es) 0=some q){m' k' v':Value}(hm:an γ (.map o) m')(hk:an γ k k')(hv:an γ v v') :
  ∃w',(Instr.mapUpdate ty m' k' v').run P w=.ok () w'/\aL F γ { σ with heap:=σ.heap.put o (.br (match q with|some (i,_)=>es.set i (kv,vv)|none=>es++[(kv,vv)])) } w'/\Step γ σ γ { σ with heap:=σ.heap.put o (.br (match q with|some (i,_)=>es.set i (kv,vv)|none=>es++[(kv,vv)])) }:=by
 simp only[an] at hm;obtain ⟨b,rfl,hb⟩:=hm;obtain rfl:=iZ k kv k' QN hk;obtain rfl:=iZ v vv v' Js hv;unfold Instr.mapUpdate;simp only[Sem.run_bind,ba hE hr w,Result.andThen_ok,hd];obtain ⟨es',clock,hw,he,lq,fk⟩:=aL.Dl (P:=P) hR hg hb;obtain ⟨r',h1,h2⟩:=Ar hE (w:=w) iq hk he hf;have oF:(getObj b).run P w=.ok (.map es' clock) w:=by simp[getObj,Sem.run,hw]
 cases q with
 | some q=>
   obtain ⟨i,u⟩:=q;obtain ⟨_,k0,b0,hi,pB⟩:=qd (tI es) 0 i u hf;rw[Nat.sub_zero] at hi;obtain ⟨e0,j5,rfl,rfl⟩:=Gp hi;cases r' with
   | none=>exact h2.elim
   | some r'=>
     obtain ⟨j,u'⟩:=r';obtain ⟨rfl,_⟩:=h2;have NZ:∃e1,es'[i]?=some e1/\e1.key=e0.1:=by
      rw[<-he,List.getElem?_map] at j5;obtain ⟨e1,h3,h4⟩:=Option.map_eq_some_iff.1 j5;exact ⟨e1,by simpa using h3,congrArg Prod.fst h4⟩
     obtain ⟨e1,kC,sa⟩:=NZ;have o5:=Dh pB hk (cN γ e0.1);have Xe:(es'.modify i fun e=>{ e with key:=k',val:=v' }).toList.map (fun e=>(e.key,e.val))=es.set i (k',v'):=by
      rw[<-he];apply List.ext_getElem?;intro j;rw[List.getElem?_map,List.getElem?_set,List.getElem?_map,Array.toList_modify,List.getElem?_modify,List.length_map];by_cases o8:i=j
      ·subst o8;have hl:=(Array.getElem?_eq_some_iff.1 kC).1;rw[if_pos rfl,if_pos (by simpa using hl)];have:es'.toList[i]?=some e1:=by simpa using kC
       rw[this];simp
      ·rw[if_neg o8];cases es'.toList[j]?<;>simp[o8]
     obtain ⟨s1,s2,s3⟩:=fk (es.set i (k',v')) (es'.modify i fun e=>{ e with key:=k',val:=v' }) clock Xe fun hs=>by
      have hlen:=(List.getElem?_eq_some_iff.1 j5).1;have gT:k'=e0.1:=by
       have h3:=hs (k',v') (List.mem_iff_getElem?.2 ⟨i,by simp[hlen]⟩);exact (yB pB hk (He pB hk h3)).1 rfl
      refine Go.MapKept.stamped_modify (lq fun e he=>?_) i _ (fun _ _=>rfl) (fun e' _ WV=>by rw[kC] at WV;cases WV;rw[sa];exact gT);obtain ⟨j,hj⟩:=List.mem_iff_getElem?.1 he;by_cases o8:i=j
      ·subst o8;rw[j5] at hj;cases hj
       rw[<-gT];exact hs (k',v') (List.mem_iff_getElem?.2 ⟨i,by simp[hlen]⟩)
      ·exact hs e (List.mem_iff_getElem?.2 ⟨j,by rw[List.getElem?_set,if_neg o8];exact hj⟩)
     refine ⟨_,?_,s2,s3⟩;simp only[oF,Sem.run_bind,Result.andThen_ok,fA hE (w:=w) iq hk,h1,kC,Option.map_some,Option.getD_some,Sem.run_bind,Instr.keyThatStays,sa,o5,if_true,Sem.run_pure,s1]
 | none=>
   cases r' with
   | some r'=>exact h2.elim
   | none=>
     obtain ⟨s1,s2,s3⟩:=fk (es++[(k',v')]) (es'.push { key:=k',val:=v',born:=clock }) (clock+1) (by simp[he]) fun hs=>by
      refine Go.MapKept.stamped_push (lq fun e he=>hs e (by simp[he])) fun x hx e=>?_;have ig:(x.key,x.val)∈es:=by rw[<-he];exact List.mem_map.2 ⟨x,hx,rfl⟩
      have h3:=yr (tI es) 0 hf (ofValue x.key,ofValue x.val,0) (List.mem_map.2 ⟨_,ig,rfl⟩);have h4:=(yB h3 hk (hs (x.key,x.val) (by simp[ig]))).2 e.symm;cases h4
     refine ⟨_,?_,s2,s3⟩;simp only[oF,Sem.run_bind,Result.andThen_ok,fA hE (w:=w) iq hk,h1,s1]
theorem yC(hR:aL F γ σ w){ty kt et:TypeId}{r:cZ}(hr:E.ty ty=some r)(hd:r.bg=.map kt et){o:Nat}{k:AV}{d:TypeDesc}{es:List (Value×Value)}(iq:lu E kt k=some d)(Oh:Fh d=true)(hg:σ.heap.get o=some (.br es)){q:Option (Nat×AV)}(hf:dZ d k (tI es) 0=some q){m' k':Value}(hm:an γ (.map o) m')(hk:an γ k k'){ts:Array TypeId}{tt:TypeId}{ys:Array Value}
  (h0:ts[0]?=some ty) (h1:ys[0]?=some m') (h2:ys[1]?=some k') :
  ∃w',(Builtin.delete_ ts tt ys).run P w=.ok (.tuple #[]) w'/\aL F γ { σ with heap:=σ.heap.put o (.br (match q with|some (i,_)=>es.eraseIdx i|none=>es)) } w'/\Step γ σ γ { σ with heap:=σ.heap.put o (.br (match q with|some (i,_)=>es.eraseIdx i|none=>es)) }:=by
 simp only[an] at hm;obtain ⟨b,rfl,hb⟩:=hm;unfold Builtin.delete_;simp only[h0,h1,h2,Sem.run_bind,ba hE hr w,Result.andThen_ok,hd];obtain ⟨es',clock,hw,he,lq,fk⟩:=aL.Dl (P:=P) hR hg hb;obtain ⟨r',h1,h2⟩:=Ar hE (w:=w) iq hk he hf;have oF:(getObj b).run P w=.ok (.map es' clock) w:=by simp[getObj,Sem.run,hw]
 cases q with
 | some q=>
   obtain ⟨i,u⟩:=q;obtain ⟨_,k0,b0,hi,pB⟩:=qd (tI es) 0 i u hf;rw[Nat.sub_zero] at hi;obtain ⟨e0,j5,rfl,rfl⟩:=Gp hi;cases r' with
   | none=>exact h2.elim
   | some r'=>
     obtain ⟨j,u'⟩:=r';obtain ⟨rfl,_⟩:=h2;have Df:sL e0.1=true:=by
      unfold iO at pB;split at pB
      ·rename_i e;revert e;cases e0.1<;>intro e<;>first|rfl|cases e
      ·rename_i e;revert e;cases e0.1<;>intro e<;>first|rfl|cases e
      ·rename_i e;revert e;cases e0.1<;>intro e<;>first|rfl|cases e
      ·cases Oh
      ·cases pB
     obtain ⟨s1,s2,s3⟩:=fk (es.eraseIdx i) (es'.eraseIdxIfInBounds i) clock (by
      have:(es'.eraseIdxIfInBounds i).toList=es'.toList.eraseIdx i:=by simp
      rw[this,<-he,lV]) fun hs=>Go.MapKept.stamped_erase (lq fun e he=>by
       obtain ⟨j,hj⟩:=List.mem_iff_getElem?.1 he;by_cases o8:i=j
       ·subst o8;rw[j5] at hj;cases hj;exact Df
       ·exact hs e (List.mem_eraseIdx_iff_getElem?.2 ⟨j,Ne.symm o8,hj⟩)) i
     refine ⟨_,?_,s2,s3⟩;simp only[oF,Sem.run_bind,Result.andThen_ok,fA hE (w:=w) iq hk,h1,s1,Sem.run_pure]
 | none=>
   cases r' with
   | some r'=>exact h2.elim
   | none=>
     obtain ⟨s1,s2,s3⟩:=fk es es' clock he lq;refine ⟨_,?_,s2,s3⟩;simp only[oF,Sem.run_bind,Result.andThen_ok,fA hE (w:=w) iq hk,h1,s1,Sem.run_pure]
end
section
variable{F:di}{P:Program}{E:Env}(hE:ch P E){γ:aK}{σ:AS}{w:World}{t:ax}{ρ:Operand->Value}
include hE
theorem MK(hR:aL F γ σ w){ty:TypeId}{a v:AV}{cd:AS}(h:wX E σ ty a v=some cd){a' v':Value}(ha:an γ a a')(hv:an γ v v') :
  ∃w',(Instr.storeAt ty a' v').run P w=.ok () w'/\aL F γ cd w'/\Step γ σ γ cd:=by
 unfold wX at h;split at h
 ·rename_i o off r hr;split at h
  ·rename_i l elem hg;split at h
   ·rename_i hb;simp only[Bool.and_eq_true] at hb;obtain ⟨⟨iN,lK⟩,ll⟩:=hb;have iN:=Nat.eq_of_beq_eq_true iN;have ll:=Nat.le_of_ble_eq_true ll;simp only[Option.some.injEq] at h;subst h;simp only[an] at ha;obtain ⟨ad,rfl,dj⟩:=ha;have ET:=eX hv;have Zr:v'.cells.size=v.cells.length:=by simpa using bp ET
    obtain ⟨w',h1,h2,h3⟩:=aL.store (P:=P) hR hg dj (by rw[iN];exact ll) ET lK;refine ⟨w',?_,h2,h3⟩;unfold Instr.storeAt storeVar;have aN:¬(v'.cells.size≠r.info.size):=by omega
    simp only[Instr.sureAddr,Sem.run_bind,Sem.run_pure,Result.andThen_ok,bT hE hr w,if_neg aN,h1]
   ·cases h
  ·cases h
 ·cases h
theorem B7(hR:aL F γ σ w){ty:TypeId}{m k v:AV}{cd:AS}(h:pT E σ ty m k v=some cd){m' k' v':Value}(hm:an γ m m')(hk:an γ k k')(hv:an γ v v') :
  ∃w',(Instr.mapUpdate ty m' k' v').run P w=.ok () w'/\aL F γ cd w'/\Step γ σ γ cd:=by
 unfold pT at h;cases hr:E.ty ty with
 | none=>rw[hr] at h;cases h
 | some r=>
   rw[hr] at h;simp only[] at h;split at h
   ·rename_i kt et o hd;split at h
    ·rename_i d es clock iq hg;simp only[an] at hm;obtain ⟨b,rfl,hb⟩:=hm;unfold Instr.mapUpdate;simp only[Sem.run_bind,ba hE hr w,Result.andThen_ok,hd];split at h
     ·rename_i i u hf;simp only[Option.some.injEq] at h;subst h;obtain ⟨_,k0,b0,hi,pB⟩:=qd es 0 i u hf;rw[Nat.sub_zero] at hi;obtain ⟨es',hw,he,fk⟩:=aL.entries (P:=P) (fs:=setAt es i (k,v,b0)) (clock':=clock) hR hg hb;obtain ⟨r',h1,h2⟩:=hZ hE (w:=w) iq hk he hf;cases r' with
      | none=>exact h2.elim
      | some r'=>
        obtain ⟨j,u'⟩:=r';obtain ⟨rfl,_⟩:=h2;obtain ⟨k1,v1,j4,eZ,_⟩:=yo he i _ hi;have hi'':es'[i]?=some ⟨k1,v1,b0⟩:=by simpa using j4
        have o5:=Dh pB hk eZ;have oF:(getObj b).run P w=.ok (.map es' clock) w:=by simp[getObj,Sem.run,hw]
        obtain ⟨s1,s2,s3⟩:=fk (es'.modify i fun e=>{ e with key:=k',val:=v' }) (by rw[Array.toList_modify];exact uo hk hv i he hi);have QF:Ef es i=b0:=by unfold Ef;rw[hi]
        refine ⟨_,?_,by rw[QF];exact s2,by rw[QF];exact s3⟩;simp only[oF,Sem.run_bind,Result.andThen_ok,fA hE (w:=w) iq hk,h1,hi'',Option.map_some,Option.getD_some,Sem.run_bind,Instr.keyThatStays,o5,if_true,Sem.run_pure,s1]
     ·rename_i hf;simp only[Option.some.injEq] at h;subst h;obtain ⟨es',hw,he,fk⟩:=aL.entries (P:=P) (fs:=es++[(k,v,clock)]) (clock':=clock+1) hR hg hb;obtain ⟨r',h1,h2⟩:=hZ hE (w:=w) iq hk he hf;cases r' with
      | some r'=>exact h2.elim
      | none=>
        have oF:(getObj b).run P w=.ok (.map es' clock) w:=by simp[getObj,Sem.run,hw]
        obtain ⟨s1,s2,s3⟩:=fk (es'.push { key:=k',val:=v',born:=clock }) (by rw[Array.toList_push];exact rK he (by simp only[aX];exact ⟨k',v',[],rfl,hk,hv,rfl⟩));refine ⟨_,?_,s2,s3⟩;simp only[oF,Sem.run_bind,Result.andThen_ok,fA hE (w:=w) iq hk,h1,s1]
     ·cases h
    ·rename_i d es iq hg;split at h
     ·rename_i kv vv QN Js;split at h
      ·rename_i i u hf;simp only[Option.some.injEq] at h;subst h;exact yE hE hR hr hd iq hg QN Js hf hm hk hv
      ·rename_i hf;simp only[Option.some.injEq] at h;subst h;exact yE hE hR hr hd iq hg QN Js hf hm hk hv
      ·cases h
     ·cases h
    ·cases h
   ·cases h
theorem I1(hR:aL F γ σ w){ty:TypeId}{m k:AV}{cd:AS}(h:vL E σ ty m k=some cd){m' k':Value}(hm:an γ m m')(hk:an γ k k'){ts:Array TypeId}{tt:TypeId}{ys:Array Value}
  (h0:ts[0]?=some ty) (h1:ys[0]?=some m') (h2:ys[1]?=some k') :
  ∃w',(Builtin.delete_ ts tt ys).run P w=.ok (.tuple #[]) w'/\aL F γ cd w'/\Step γ σ γ cd:=by
 unfold vL at h;cases hr:E.ty ty with
 | none=>rw[hr] at h;cases h
 | some r=>
   rw[hr] at h;simp only[] at h;split at h
   ·rename_i kt et o hd;split at h
    ·rename_i d es clock iq hg;simp only[an] at hm;obtain ⟨b,rfl,hb⟩:=hm;unfold Builtin.delete_;simp only[h0,h1,h2,Sem.run_bind,ba hE hr w,Result.andThen_ok,hd];split at h
     ·rename_i i u hf;simp only[Option.some.injEq] at h;subst h;obtain ⟨es',hw,he,fk⟩:=aL.entries (P:=P) (fs:=es.eraseIdx i) (clock':=clock) hR hg hb;obtain ⟨r',h1,h2⟩:=hZ hE (w:=w) iq hk he hf;cases r' with
      | none=>exact h2.elim
      | some r'=>
        obtain ⟨j,u'⟩:=r';obtain ⟨rfl,_⟩:=h2;have oF:(getObj b).run P w=.ok (.map es' clock) w:=by simp[getObj,Sem.run,hw]
        obtain ⟨s1,s2,s3⟩:=fk (es'.eraseIdxIfInBounds i) (by
         have:(es'.eraseIdxIfInBounds i).toList=es'.toList.eraseIdx i:=by simp
         rw[this];exact um i he)
        refine ⟨_,?_,s2,s3⟩;simp only[oF,Sem.run_bind,Result.andThen_ok,fA hE (w:=w) iq hk,h1,s1,Sem.run_pure]
     ·rename_i hf;simp only[Option.some.injEq] at h;subst h;obtain ⟨es',hw,he,fk⟩:=aL.entries (P:=P) (fs:=es) (clock':=clock) hR hg hb;obtain ⟨r',h1,h2⟩:=hZ hE (w:=w) iq hk he hf;cases r' with
      | some r'=>exact h2.elim
      | none=>
        have oF:(getObj b).run P w=.ok (.map es' clock) w:=by simp[getObj,Sem.run,hw]
        obtain ⟨s1,s2,s3⟩:=fk es' he;refine ⟨_,?_,s2,s3⟩;simp only[oF,Sem.run_bind,Result.andThen_ok,fA hE (w:=w) iq hk,h1,s1,Sem.run_pure]
     ·cases h
    ·rename_i d es iq hg;split at h
     ·rename_i i u Oh hf;simp only[Option.some.injEq] at h;subst h;exact yC hE hR hr hd iq Oh hg hf hm hk h0 h1 h2
     ·rename_i Oh hf;simp only[Option.some.injEq] at h;subst h;exact yC hE hR hr hd iq Oh hg hf hm hk h0 h1 h2
     ·cases h
    ·cases h
   ·cases h
end
end Go.Proofs.YtmbdghclhpboaaaGreat.Ev
