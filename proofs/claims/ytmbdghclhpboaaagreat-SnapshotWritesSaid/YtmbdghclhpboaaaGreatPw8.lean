/- Part of the proof: EvN. Conditions: as each states. -/
import Derived.Test.YtmbdghclhpboaaaGreatPw7
set_option linter.all false
namespace Go.Proofs.YtmbdghclhpboaaaGreat.Ev
theorem aL.move{F:di}{γ:aK}{σ:AS}{w w':World}(h:aL F γ σ w){o:Nat}{p:Place}{ob:af}(base:Nat)(hp:γ o=some (some p))(hl:σ.next<aU)(hd:ob≠.dead)
  (hrel:dI (fJ (fJ γ o none) σ.next (some ⟨p.block,base,p.top⟩)) ob ⟨p.block,base,p.top⟩ w') (hw:CM p.block w w') :
  aL F (fJ (fJ γ o none) σ.next (some ⟨p.block,base,p.top⟩)) { heap:=(σ.heap.put o .dead).put σ.next ob,next:=σ.next+1 } w':=by
 have rj:=h.iF (o:=o) (by rw[hp];simp);have ho:o<=aU:=Nat.le_trans (Nat.le_of_lt rj) h.aU;have ni:(fJ γ o none) σ.next=none:=by rw[bU _ _ (by omega)];exact h.jv _ (Nat.le_refl _)
 have hx:Ext γ (fJ (fJ γ o none) σ.next (some ⟨p.block,base,p.top⟩)):=(xp o).trans (iY _ ni);have dd:∀q,q≠o->q≠σ.next->((σ.heap.put o .dead).put σ.next ob).get q=σ.heap.get q:=by
  intro q h1 h2;rw[T.bH _ _ _ _ (Nat.le_of_lt hl),if_neg h2,T.bH _ _ _ _ ho,if_neg h1]
 have wa:∀q,q≠o->q≠σ.next->(fJ (fJ γ o none) σ.next (some ⟨p.block,base,p.top⟩)) q=γ q:=by
  intro q h1 h2;rw[bU _ _ h2,bU _ _ h1]
 have AJ:(fJ (fJ γ o none) σ.next (some ⟨p.block,base,p.top⟩)) o=some none:=by
  rw[bU _ _ (by omega),bu]
 refine ⟨⟨fun q hq=>?_,fun q r hq=>?_,fun q hq=>?_,fun q q' r r' hq eN e=>?_,by simp only[];omega⟩,fun q r hq=>?_,(h.frame.turn (h.frame.own o p hp) hw).less fun q r hq=>?_⟩
 ·simp only[] at hq;rw[wa q (by omega) (by omega)];exact h.jv q (by omega)
 ·by_cases e1:q=o
  ·subst e1;rw[AJ] at hq;cases hq
  ·by_cases e2:q=σ.next
   ·subst e2;rw[bu] at hq;cases hq;refine ⟨ob,?_,hrel⟩;simp only[];rw[T.bH _ _ _ _ (Nat.le_of_lt hl)];simp
   ·rw[wa q e1 e2] at hq;obtain ⟨cT,h1,h2⟩:=h.obj q r hq;refine ⟨cT,by simp only[];rw[dd q e1 e2];exact h1,h2.mono hx (hw.block _ fun e=>e1 (h.inj q o r p hq hp e))⟩
 ·by_cases e1:q=o
  ·subst e1;simp only[];rw[T.bH _ _ _ _ (Nat.le_of_lt hl),if_neg (by omega),T.bH _ _ _ _ ho];simp
  ·by_cases e2:q=σ.next
   ·subst e2;rw[bu] at hq;cases hq
   ·rw[wa q e1 e2] at hq;simp only[];rw[dd q e1 e2];exact h.gone q hq
 ·have n1:q≠o:=fun e=>by rw[e,AJ] at hq;cases hq
  have n2:q'≠o:=fun e=>by rw[e,AJ] at eN;cases eN
  by_cases e1:q=σ.next<;>by_cases e2:q'=σ.next
  ·rw[e1,e2]
  ·rw[e1,bu] at hq;cases hq;rw[wa q' n2 e2] at eN;exact absurd (h.inj q' o r' p eN hp e.symm) n2
  ·rw[e2,bu] at eN;cases eN;rw[wa q n1 e1] at hq;exact absurd (h.inj q o r p hq hp e) n1
  ·rw[wa q n1 e1] at hq;rw[wa q' n2 e2] at eN;exact h.inj q q' r r' hq eN e
 ·have n1:q≠o:=fun e=>by rw[e,AJ] at hq;cases hq
  by_cases e2:q=σ.next
  ·subst e2;simp only[];rw[T.bH _ _ _ _ (Nat.le_of_lt hl)];simp only[if_true];intro hh;exact hd (Option.some.inj hh)
  ·rw[wa q n1 e2] at hq;simp only[];rw[dd q n1 e2];exact h.live q r hq
 ·have n1:q≠o:=fun e=>by rw[e,AJ] at hq;cases hq
  by_cases e2:q=σ.next
  ·subst e2;rw[bu] at hq;cases hq;exact ⟨o,p,hp,rfl⟩
  ·rw[wa q n1 e2] at hq;exact ⟨q,r,hq,rfl⟩
theorem Step.grow{F:di}{γ:aK}{σ:AS}{w:World}(h:aL F γ σ w){o:Nat}(ob:af)(q:Option Place)(hp:γ o≠none)(hl:σ.next<aU) :
  Step γ σ (fJ (fJ γ o none) σ.next q) { heap:=(σ.heap.put o .dead).put σ.next ob,next:=σ.next+1 }:=by
 have rj:=h.iF hp;have ho:o<=aU:=Nat.le_trans (Nat.le_of_lt rj) h.aU;have ni:(fJ γ o none) σ.next=none:=by rw[bU _ _ (by omega)];exact h.jv _ (Nat.le_refl _)
 refine ⟨(xp o).trans (iY q ni),fun a ha hg=>?_,Nat.le_succ _,fun a ha hg=>?_⟩
 ·rw[bU _ _ (by omega),bU _ _ (fun e=>hp (by rw[<-e];exact hg))];exact hg
 ·simp only[];rw[T.bH _ _ _ _ (Nat.le_of_lt hl),if_neg (by omega),T.bH _ _ _ _ ho,if_neg (fun e=>hp (by rw[<-e];exact hg))]
theorem AA(wE:Nat):∀(r c:Nat),4 * c<=5 * wE+2048->4 * Builtin.growBy wE r c<=5 * wE+2048
 | 0,c,h=>by simpa [Builtin.growBy] using h
 | r+1,c,h=>by
   unfold Builtin.growBy;split
   ·exact h
   ·exact AA wE r _ (by omega)
theorem Hk{wE fV:Nat}(h:fV<wE):4 * Builtin.nextslicecap wE fV<=5 * wE+2048:=by
 unfold Builtin.nextslicecap;split
 ·omega
 ·split
  ·omega
  ·exact AA wE 4 fV (by omega)
theorem zr(z:Array Value)(n:Nat):(Builtin.zeroCells z n).size=n * z.size:=by simp[Builtin.zeroCells]
section
variable{F:di}{P:Program}{E:Env}(hE:ch P E){γ:aK}{σ:AS}{w:World}{t:ax}{ρ:Operand->Value}
include hE
omit hE in
theorem xG{x:AV}{n:Nat}(h:ir x=some n){y:Value}(hx:an γ x y):(Builtin.lenOf y).run P w=.ok n w:=by
 unfold ir at h;split at h
 ·simp only[an] at hx;obtain ⟨a,c,rfl,_⟩:=hx;simp only[Option.some.injEq] at h;subst h;rfl
 ·rw[al] at hx;subst hx;simp only[Option.some.injEq] at h;subst h;rfl
 ·rw[al] at hx;subst hx;simp only[Option.some.injEq] at h;subst h;rfl
 ·cases h
theorem yS{ts:Array TypeId}{tt ty xt:TypeId}{ys:Array Value}{r xr er:cZ}{elem:TypeId}{a:Addr}{len c n:Nat}{x:Value}{new:Array Value}{w':World}
  (h0:ts[0]?=some ty) (h1:ts[1]?=some xt) (h2:ys[0]?=some (.slice (some a) len c)) (h3:ys[1]?=some x) (hr:E.ty ty=some r) (hd:r.bg=.slice elem) (xB:E.ty xt=some xr) (Cw:∀k,xr.bg≠.int k)
  (fh:E.ty elem=some er) (hn:(Builtin.lenOf x).run P w=.ok n w) (hf:(Builtin.firstCells er.info.size n x).run P w=.ok new w) (hle:len+n<=c)
  (lq:(storeCells (a.add (len * er.info.size)) new.toList).run P w=.ok () w') :
  (Builtin.append_ ts tt ys).run P w=.ok (.slice (some a) (len+n) c) w':=by
 have hz:(match xr.bg with|.int _=>true|_=>false)=false:=by
  split
  ·exact absurd ‹_› (Cw _)
  ·rfl
 unfold Builtin.append_;simp only[h0,h1,h2,h3,Sem.run_bind,ba hE hr w,hd,Result.andThen_ok,bT hE fh w,ba hE xB w,Sem.run_pure,hz,Bool.false_eq_true,if_false,hn,if_pos hle,Bool.not_false,if_true,hf,lq]
theorem Fe{ts:Array TypeId}{tt ty xt:TypeId}{ys:Array Value}{r xr er:cZ}{elem:TypeId}{base:Option Addr}{len c n:Nat}{x z:Value}{fV new:Array Value}
  (h0:ts[0]?=some ty) (h1:ts[1]?=some xt) (h2:ys[0]?=some (.slice base len c)) (h3:ys[1]?=some x) (hr:E.ty ty=some r) (hd:r.bg=.slice elem) (xB:E.ty xt=some xr) (Cw:∀k,xr.bg≠.int k)
  (fh:E.ty elem=some er) (hz:er.info.zero=some z) (hn:(Builtin.lenOf x).run P w=.ok n w) (hf:∀w',w'.heap=w.heap->(Builtin.firstCells er.info.size n x).run P w'=.ok new w') (ah:¬len+n<=c)
  (ER:∀w',w'.heap=w.heap->(Builtin.firstCells er.info.size len (.slice base len c)).run P w'=.ok fV w') (UM:(len+n) * er.info.bytes<=140737488355328/\len+n<=4611686018427387904) (v3:er.info.bytes<=65536) :
  ∃cap,len+n<=cap/\(Builtin.append_ ts tt ys).run P w=.ok (.slice (some ⟨w.heap.size,0,none⟩) (len+n) cap) { w with heap:=w.heap.push (.cells (fV++new++Builtin.zeroCells z.cells (cap - (len+n))) elem),drawn:=w.drawn+1 }:=by
 have LX:(match xr.bg with|.int _=>true|_=>false)=false:=by
  split
  ·exact absurd ‹_› (Cw _)
  ·rfl
 have we:¬(((len+n:Nat):Int)>IntKind.i64.max/\((false=true)\/er.info.bytes=0)):=by
  intro hh;have:=hh.1;unfold IntKind.max IntKind.signed IntKind.bits at this;simp at this;omega
 have gh:¬(Builtin.nextslicecap (len+n) c * er.info.bytes>2 ^ 48):=by
  have:=Hk (by omega:c<len+n);have h2:=Nat.mul_le_mul_right er.info.bytes this;rw[Nat.add_mul,Nat.mul_assoc,Nat.mul_assoc] at h2;have h3:=UM.1;have h4:2048 * er.info.bytes<=2048 * 65536:=Nat.mul_le_mul_left _ v3;generalize (len+n) * er.info.bytes=u at *;generalize Builtin.nextslicecap (len+n) c * er.info.bytes=v at *;omega
 let w1:World:={ w with drawn:=w.drawn+1 }
 refine ⟨(Question.appendCap (len+n) c elem).cut (w.tape w.drawn (.appendCap (len+n) c elem)),?_,?_⟩
 ·simp only[Question.cut];omega
 ·unfold Builtin.append_;have wv:w1.heap=w.heap:=rfl;have e1:=hf w1 wv;have e2:=ER w1 wv;have hq:(Question.appendCap (len+n) c elem).forced=false:=rfl;simp only[h0,h1,h2,h3,Sem.run_bind,ba hE hr w,hd,Result.andThen_ok,bT hE fh w,ba hE xB w,Sem.run_pure,LX,Bool.false_eq_true,if_false,hn,if_neg ah,Bool.not_false,if_true,l9 hE fh w];have hmax':¬(((len+n:Nat):Int)>IntKind.i64.max/\(False\/er.info.bytes=0)):=by simpa using we
  rw[if_neg hmax'];simp only[Sem.run_bind,l9 hE fh w,Result.andThen_ok,if_neg gh,run_choose,hq,Bool.false_eq_true,if_false];have hw1':({ heap:=w.heap,tape:=w.tape,drawn:=w.drawn+1,os:=w.os,output:=w.output }:World)=w1:=rfl;simp only[hw1',l9 hE fh w1,Result.andThen_ok,run_askRoom,e1,e2,ma hE fh w1 hz,newRow,Sem.run_bind,run_newObj,Sem.run_pure];rfl
theorem IP(hR:aL F γ σ w){ts:Array TypeId}{tt ty xt:TypeId}{ys:Array Value}{xr:cZ}{s x v:AV}{cd:AS}{s' x':Value}(h:mw E σ ty s x=some (v,cd))(hs:an γ s s')(hx:an γ x x')
  (h0:ts[0]?=some ty) (h1:ts[1]?=some xt) (h2:ys[0]?=some s') (h3:ys[1]?=some x') (xB:E.ty xt=some xr) (Cw:∀k,xr.bg≠.int k) :
  ∃aq w' u,(Builtin.append_ ts tt ys).run P w=.ok u w'/\an aq v u/\aL F aq cd w'/\Step γ σ aq cd:=by
 unfold mw at h;cases hr:E.ty ty with
 | none=>rw[hr] at h;cases h
 | some r=>
   rw[hr] at h;simp only[] at h;split at h
   ·rename_i elem hd;split at h
    ·rename_i er n len fh fD GU;split at h
     ·rename_i new fV z AL QM hz;split at h
      ·cases h
      ·rename_i hb;simp only[Bool.and_eq_true] at hb;obtain ⟨⟨⟨⟨⟨⟨⟨iN,lK⟩,ll⟩,AE⟩,Cm⟩,Cn⟩,LH⟩,QE⟩:=hb;have QE:Au elem=false:=by simpa using QE
       have iN:=And.intro (Nat.le_of_ble_eq_true iN.1) (Nat.le_of_ble_eq_true iN.2);have lK:=Nat.le_of_ble_eq_true lK;have ll:=gA ll;have AE:=Nat.eq_of_beq_eq_true AE;have Cm:=Nat.eq_of_beq_eq_true Cm;have Cn:=Nat.eq_of_beq_eq_true Cn;have tN:az γ (ofValue z).cells z.cells.toList:=eX (cN γ z);have rp:z.cells.size=er.info.size:=by have:=bp tN;rw[AE] at this;simpa using this
       have gJ:=xG (P:=P) (w:=w) fD hx;obtain ⟨cn,EF,AI⟩:=uO (P:=P) hR.toRel AL hx;obtain ⟨co,WT,NS⟩:=uO (P:=P) hR.toRel QM hs;have KE:=bp AI;have NR:=bp NS;simp only[Array.length_toList] at KE NR;have fresh:∀(base:Option Addr) (c:Nat),s'=.slice base len c->¬len+(n+1)<=c->∃cap,len+(n+1)<=cap /\
         (Builtin.append_ ts tt ys).run P w=.ok (.slice (some ⟨w.heap.size,0,none⟩) (len+(n+1)) cap) { w with heap:=w.heap.push (.cells (co++cn++Builtin.zeroCells z.cells (cap - (len+(n+1)))) elem),drawn:=w.drawn+1 }:=by
        intro base c e ah;subst e;exact Fe hE h0 h1 h2 h3 hr hd xB Cw fh hz gJ EF ah WT iN lK
       have XD:aL F γ σ { w with drawn:=w.drawn+1 }:=hR.heap rfl;have iW:∀cap,len+(n+1)<=cap->(co++cn++Builtin.zeroCells z.cells (cap - (len+(n+1)))).size=cap * er.info.size:=by
        intro cap gh;simp only[Array.size_append,zr,rp,KE,NR,Cm,Cn];rw[<-Nat.add_mul,<-Nat.add_mul];congr 1;omega
       have Dd:∀(aq:aK) (cap base:Nat) (w':World) (b top:Nat),Ext γ aq->len+(n+1)<=cap->w'.heap[b]?=some (.cells (co++cn++Builtin.zeroCells z.cells (cap - (len+(n+1)))) elem) ->
         dI aq (.cells (fV++new) elem) ⟨b,0,cap * er.info.size⟩ w':=by
        intro aq cap base w' b top xA gh Va;refine ⟨_,Va,⟨iW cap gh,fun h=>absurd h (by rw[QE];simp)⟩,?_,fun i u hu=>?_⟩
        ·simp only[List.length_append,Cm,Cn];rw[<-Nat.add_mul,Nat.zero_add];exact Nat.mul_le_mul_right _ gh
        ·obtain ⟨y,hy,Jd⟩:=dq (eQ NS AI) i u hu;refine ⟨y,?_,Jd.mono xA _ _⟩;have hi:i<(co.toList++cn.toList).length:=(List.getElem?_eq_some_iff.1 hy).1;have j4:i<(co++cn).size:=by simpa using hi
         rw[Nat.zero_add,Array.getElem?_append_left j4];have:(co++cn)[i]?=(co.toList++cn.toList)[i]?:=by rw[<-Array.getElem?_toList,Array.toList_append]
         rw[this];exact hy
       have sn:∀(aq:aK) (cap:Nat),len+(n+1)<=cap->aq σ.next=some (some ⟨w.heap.size,0,cap * er.info.size⟩)->an aq (.slice σ.next 0 (len+(n+1)) (.grown er.info.size)) (.slice (some ⟨w.heap.size,0,none⟩) (len+(n+1)) cap):=by
        intro aq cap gh hg;simp only[an];exact ⟨_,_,rfl,.inr (by unfold gz;rw[hg]),gh,by unfold oA;rw[hg];simp⟩
       have plain:(base:Option Addr)->(c:Nat)->s'=.slice base len c->¬len+(n+1)<=c->v=.slice σ.next 0 (len+(n+1)) (.grown er.info.size)->cd={ heap:=σ.heap.put σ.next (.cells (fV++new) elem),next:=σ.next+1 } ->
         ∃aq w' u,(Builtin.append_ ts tt ys).run P w=.ok u w'/\an aq v u/\aL F aq cd w'/\Step γ σ aq cd:=by
        intro base c e ah ev es;obtain ⟨cap,gh,cW⟩:=fresh base c e ah;subst ev es;have hm:=XD.more ll (.cells (fV++new) elem);have ni:γ σ.next=none:=hR.jv _ (Nat.le_refl _)
        have dd:(σ.heap.put σ.next (af.cells (fV++new) elem)).get σ.next=some (.cells (fV++new) elem):=by rw[T.bH _ _ _ _ (Nat.le_of_lt ll)];simp
        refine ⟨_,_,_,cW,sn _ cap gh (bu γ σ.next _),hm.place (id:=σ.next) (base:=0) (top:=cap * er.info.size) (by simp) ni dd (by simp) _ ?_,Step.place _ ni σ (Nat.le_refl _) (Step.more hR ll _)⟩;exact Dd _ cap 0 _ _ 0 (iY _ ni) gh (by simp)
       split at h
       ·simp only[Option.some.injEq,Prod.mk.injEq] at h;rw[al] at hs;have hlen:∃m,s'=.slice none m 0/\m=len:=by
         refine ⟨_,hs,?_⟩;simpa [ir] using GU
        obtain ⟨m,e,rfl⟩:=hlen;exact plain none 0 e (by omega) h.1.symm h.2.symm
       ·rename_i o off m cap;simp only[ir,Option.some.injEq] at GU;subst GU;have G7:=hs;simp only[an] at hs;obtain ⟨a,c,rfl,ha,tL,v7⟩:=hs;split at h
        ·rename_i s0;split at h
         ·rename_i GM;rw[Bool.and_eq_true] at GM;have Cu:=Nat.eq_of_beq_eq_true GM.1;subst Cu;have AH:∃l,σ.heap.get o=some (.cells l elem):=by
           have:=GM.2;unfold Bb at this;split at this
           ·rename_i e0 _;have:=Nat.eq_of_beq_eq_true this;subst this;exact ⟨_,by assumption⟩
           ·cases this
          obtain ⟨l0,j6⟩:=AH;simp only[Option.some.injEq,Prod.mk.injEq] at h;obtain ⟨rfl,rfl⟩:=h;simp only[] at v7;have pD:γ o≠none:=fun e=>by unfold oA at v7;rw[e] at v7;exact v7
          obtain ⟨p,hp,sh⟩:=hR.find j6 (by simp) pD;have wu:p.base+(off+c * er.info.size)<=p.top:=by unfold oA at v7;rw[hp] at v7;exact v7
          by_cases jd:m+(n+1)<=c
          ·have ha:gz γ o off a:=ha.resolve_left (by omega);obtain rfl:=ha.at hp;obtain ⟨cb,Ut,⟨WQ,Z0⟩,AF,GN⟩:=sh;have wi:∀y∈cn.toList,y.oneCell'=true:=by
            intro y hy;obtain ⟨i,hi,e⟩:=List.mem_iff_getElem.1 hy;have Ok:i<new.length:=by simpa [KE] using hi
            obtain ⟨x,hx,kA⟩:=dq AI i new[i] (by simp[Ok]);rw[List.getElem?_eq_getElem hi,e] at hx;cases hx
            exact C3 kA (List.all_eq_true.1 LH _ (List.getElem_mem Ok))
           have r8:p.base+off+m * er.info.size+cn.toList.length<=cb.size:=by
            rw[Array.length_toList,KE,Cn,WQ];have:=Nat.mul_le_mul_right er.info.size jd;rw[Nat.add_mul] at this;omega
           have lq:=run_storeCells_at (P:=P) p.block (p.base+off+m * er.info.size) elem cn.toList 0 cb w Ut (by omega) wi;rw[Nat.add_zero] at lq;have AD:(⟨p.block,p.base+off,none⟩:Addr).add (m * er.info.size)=⟨p.block,p.base+off+m * er.info.size,none⟩:=kG _ _ _;have cW:=yS hE (tt:=tt) h0 h1 h2 h3 hr hd xB Cw fh gJ (EF w rfl) jd (by rw[AD];exact lq);have U5:(cb.toList.take (p.base+off+m * er.info.size)++cn.toList++cb.toList.drop (p.base+off+m * er.info.size+cn.toList.length))=setFrom cb.toList (p.base+off+m * er.info.size) cn.toList:=rfl;rw[U5] at cW;have KD:cb.toList.length=cb.size:=by simp
           have hold:co.toList=(cb.toList.drop (p.base+off)).take (m * er.info.size):=by
            have:=WT w rfl;have hl:=run_loadCells_list (P:=P) w ⟨p.block,p.base+off,none⟩ ((cb.toList.drop (p.base+off)).take (m * er.info.size)) (by
             intro j u hu;rw[kG];rw[List.getElem?_take] at hu;split at hu
             ·rw[List.getElem?_drop] at hu;simp only[World.cell?,Ut,Option.isSome_none,Bool.false_eq_true,if_false];simpa using hu
             ·simp at hu)
            have o9:((cb.toList.drop (p.base+off)).take (m * er.info.size)).length=m * er.info.size:=by
             rw[List.length_take,List.length_drop,KD];rw[Array.length_toList] at r8;omega
            rw[o9] at hl;simp only[Builtin.firstCells] at this;rw[hl] at this;simp only[Result.ok.injEq,and_true] at this;rw[<-this]
           refine ⟨_,_,_,cW,?_,aL.move (base:=p.base+off) hR hp ll (by simp) ?_ (D5 w p.block _),Step.grow hR _ _ pD ll⟩
           ·simp only[an];refine ⟨_,_,rfl,.inr ?_,jd,?_⟩
            ·unfold gz;rw[bu];simp
            ·unfold oA;rw[bu];simp only[];omega
           ·have xA:Ext γ (fJ (fJ γ o none) σ.next (some ⟨p.block,p.base+off,p.top⟩)):=(Step.grow hR (.cells (fV++new) elem) _ pD ll).ext;refine ⟨_,setRow_heap w p.block cb _ elem _ Ut,?_,?_,fun i u hu=>?_⟩
            ·simp only[List.size_toArray];rw[gu _ _ _ (by rw[KD];exact r8),KD,WQ];exact ⟨rfl,fun h=>absurd h (by rw[QE];simp)⟩
            ·simp only[List.length_append,Cm,Cn];have:=Nat.mul_le_mul_right er.info.size jd;rw[Nat.add_mul] at this;omega
            ·obtain ⟨y,hy,Jd⟩:=dq (eQ NS AI) i u hu;refine ⟨y,?_,Jd.mono xA _ _⟩;simp only[List.getElem?_toArray];rw[jB _ _ _ _ (by rw[KD];exact r8)];have uT:co.toList.length=m * er.info.size:=by rw[Array.length_toList,NR,Cm]
             by_cases hi:i<m * er.info.size
             ·rw[if_neg (by omega)];rw[List.getElem?_append_left (by rw[uT];exact hi),hold,List.getElem?_take,if_pos hi,List.getElem?_drop] at hy;exact hy
             ·rw[List.getElem?_append_right (by rw[uT];omega),uT] at hy;have r9:=(List.getElem?_eq_some_iff.1 hy).1;rw[if_pos (by omega)];rw[show p.base+off+i - (p.base+off+m * er.info.size)=i - m * er.info.size by omega];exact hy
          ·obtain ⟨cap,gh,cW⟩:=fresh _ c rfl jd;have hk:=XD.kill (o:=o) pD;have hm:=hk.more ll (.cells (fV++new) elem);have rj:=hR.iF pD;have ni:(fJ γ o none) σ.next=none:=by rw[bU _ _ (by omega)];exact hR.jv _ (Nat.le_refl _)
           have dd:((σ.heap.put o .dead).put σ.next (af.cells (fV++new) elem)).get σ.next=some (.cells (fV++new) elem):=by rw[T.bH _ _ _ _ (Nat.le_of_lt ll)];simp
           have lq:=Step.grow hR (.cells (fV++new) elem) (some ⟨w.heap.size,0,cap * er.info.size⟩) pD ll;refine ⟨_,_,_,cW,sn _ cap gh (bu _ σ.next _),hm.place (id:=σ.next) (base:=0) (top:=cap * er.info.size) (by simp) ni dd (by simp) _ ?_,lq⟩;exact Dd _ cap 0 _ _ 0 lq.ext gh (by simp)
         ·cases h
        ·rename_i c0;simp only[] at v7;subst v7;split at h
         ·rename_i vZ;simp only[Option.some.injEq,Prod.mk.injEq] at h;exact plain (some a) c rfl (fun hle=>by rw[Nat.ble_eq_true_of_le hle] at vZ;cases vZ) h.1.symm h.2.symm
         ·rename_i vZ;have jd:=Nat.le_of_ble_eq_true vZ;split at h
          ·rename_i l0 e0 j6;split at h
           ·rename_i r8;have r8:=Nat.le_of_ble_eq_true r8;simp only[Option.some.injEq,Prod.mk.injEq] at h;obtain ⟨rfl,rfl⟩:=h;have ha:gz γ o off a:=ha.resolve_left (by omega);have EB:gz γ o (off+m * er.info.size) (a.add (m * er.info.size)):=by
             unfold gz at ha ⊢;cases hg:γ o with
             | none=>rw[hg] at ha;exact ha.elim
             | some q=>
               rw[hg] at ha;cases q with
               | none=>trivial
               | some p=>simp only[] at ha ⊢;rw[ha,kG,Nat.add_assoc]
            obtain ⟨w',lq,h5,h6⟩:=aL.store (P:=P) hR j6 EB r8 AI LH;have cW:=yS hE (tt:=tt) h0 h1 h2 h3 hr hd xB Cw fh gJ (EF w rfl) jd lq;refine ⟨γ,w',_,cW,?_,h5,h6⟩;simp only[an];exact ⟨_,_,rfl,.inr ha,jd,rfl⟩
           ·cases h
          ·cases h
       ·cases h
     ·cases h
    ·rename_i er len fh fD GU;have gJ:=xG (P:=P) (w:=w) fD hx;have v9:∃new:Array Value,(Builtin.firstCells er.info.size 0 x').run P w=.ok new w/\new.toList=[]:=by
      unfold ir at fD;split at fD
      ·simp only[an] at hx;obtain ⟨a,c,rfl,_⟩:=hx;refine ⟨#[],?_,rfl⟩;simp only[Builtin.firstCells,Nat.zero_mul];simpa using run_loadCells_list (P:=P) w a [] (by simp)
      ·rw[al] at hx;subst hx;exact ⟨#[],rfl,rfl⟩
      ·rename_i sb;rw[al] at hx;subst hx;refine ⟨_,rfl,?_⟩;have:sb.extract 0 0=.empty:=by simp
       rw[this];simp
      ·cases fD
     obtain ⟨new,hf,kM⟩:=v9;have hz:(match xr.bg with|.int _=>true|_=>false)=false:=by
      split
      ·exact absurd ‹_› (Cw _)
      ·rfl
     have main:∀(base:Option Addr) (c:Nat),s'=.slice base len c->len<=c->(Builtin.append_ ts tt ys).run P w=.ok s' w:=by
      intro base c e hle;subst e;unfold Builtin.append_;cases base with
      | none=>simp only[h0,h1,h2,h3,Sem.run_bind,ba hE hr w,hd,Result.andThen_ok,bT hE fh w,ba hE xB w,Sem.run_pure,hz,Bool.false_eq_true,if_false,gJ,Nat.add_zero,if_pos hle,Bool.not_false,if_true,hf]
      | some a=>simp only[h0,h1,h2,h3,Sem.run_bind,ba hE hr w,hd,Result.andThen_ok,bT hE fh w,ba hE xB w,Sem.run_pure,hz,Bool.false_eq_true,if_false,gJ,Nat.add_zero,if_pos hle,Bool.not_false,if_true,hf,kM,storeCells]
     split at h
     ·simp only[Option.some.injEq,Prod.mk.injEq] at h;obtain ⟨rfl,rfl⟩:=h;have G7:=hs;simp only[ir,Option.some.injEq] at GU;simp only[an] at hs;obtain ⟨a,c,e,_,tL,_⟩:=hs;rw[GU] at e tL;exact ⟨γ,w,s',main _ c e tL,G7,hR,.refl γ σ⟩
     ·rename_i l c;split at h
      ·rename_i vZ;simp only[Option.some.injEq,Prod.mk.injEq] at h;obtain ⟨rfl,rfl⟩:=h;simp only[ir,Option.some.injEq] at GU;have G7:=hs;rw[al] at hs;have vZ:=Nat.le_of_ble_eq_true vZ;rw[GU] at hs vZ;exact ⟨γ,w,s',main none c hs vZ,G7,hR,.refl γ σ⟩
      ·cases h
     ·cases h
    ·cases h
   ·cases h
theorem Nr(hR:aL F γ σ w){ts:Array TypeId}{tt ty:TypeId}{ys:Array Value}{d x v:AV}{cd:AS}{d' x':Value}(h:I0 E σ ty d x=some (v,cd))(y9:an γ d d')(hx:an γ x x')
  (h0:ts[0]?=some ty) (h2:ys[0]?=some d') (h3:ys[1]?=some x') :
  ∃w' u,(Builtin.copy_ ts tt ys).run P w=.ok u w'/\an γ v u/\aL F γ cd w'/\Step γ σ γ cd:=by
 unfold I0 at h;cases hr:E.ty ty with
 | none=>rw[hr] at h;cases h
 | some r=>
   rw[hr] at h;simp only[] at h;split at h
   ·rename_i elem hd;split at h
    ·rename_i er n o off len cap fh fD;have gJ:=xG (P:=P) (w:=w) fD hx;have uU:=y9;simp only[an] at y9;obtain ⟨a,c,rfl,ha,tL,_⟩:=y9;split at h
     ·rename_i N5;simp only[Option.some.injEq,Prod.mk.injEq] at h;obtain ⟨rfl,rfl⟩:=h;have v9:∃new:Array Value,(Builtin.firstCells er.info.size 0 x').run P w=.ok new w/\new.toList=[]:=by
       unfold ir at fD;split at fD
       ·simp only[an] at hx;obtain ⟨a,c,rfl,_⟩:=hx;refine ⟨#[],?_,rfl⟩;simp only[Builtin.firstCells,Nat.zero_mul];simpa using run_loadCells_list (P:=P) w a [] (by simp)
       ·rw[al] at hx;subst hx;exact ⟨#[],rfl,rfl⟩
       ·rename_i sb;rw[al] at hx;subst hx;refine ⟨_,rfl,?_⟩;have:sb.extract 0 0=.empty:=by simp
        rw[this];simp
       ·cases fD
      obtain ⟨new,hf,kM⟩:=v9;refine ⟨w,goInt 0,?_,aM γ _,hR,.refl γ σ⟩;unfold Builtin.copy_;simp only[h0,h2,h3,Sem.run_bind,ba hE hr w,hd,Result.andThen_ok,gJ,bT hE fh w,N5,hf,kM,storeCells,Sem.run_pure];rfl
     ·rename_i k N5;split at h
      ·rename_i new l e AL hg;split at h
       ·rename_i hb;rw[Bool.and_eq_true] at hb;have iN:=Nat.le_of_ble_eq_true hb.1;simp only[Option.some.injEq,Prod.mk.injEq] at h;obtain ⟨rfl,rfl⟩:=h;have hlen:k+1<=len:=by have:=Nat.min_le_right n len;have h9:n.min len=min n len:=rfl;omega
        have ha:gz γ o off a:=ha.resolve_left (by omega);obtain ⟨cn,EF,AI⟩:=C7 (P:=P) hR.toRel AL hx;obtain ⟨w',lq,h5,h6⟩:=aL.store (P:=P) hR hg ha iN AI hb.2;refine ⟨w',_,?_,aM γ _,h5,h6⟩;unfold Builtin.copy_;simp only[h0,h2,h3,Sem.run_bind,ba hE hr w,hd,Result.andThen_ok,gJ,bT hE fh w,N5,EF,lq,Sem.run_pure]
       ·cases h
      ·cases h
    ·cases h
   ·cases h
end
end Go.Proofs.YtmbdghclhpboaaaGreat.Ev
