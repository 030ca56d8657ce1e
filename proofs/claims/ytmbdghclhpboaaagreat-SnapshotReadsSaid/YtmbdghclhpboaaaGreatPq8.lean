/- Part of the proof: EvN. Conditions: as each states. -/
import Derived.Test.YtmbdghclhpboaaaGreatPq7
set_option linter.all false
namespace Go.Proofs.YtmbdghclhpboaaaGreat.Ev
theorem aU.move{F:dN}{γ:aT}{σ:AS}{w w':World}(h:aU F γ σ w){o:Nat}{p:Place}{ob:ai}(base:Nat)(hp:γ o=some (some p))(hl:σ.next<aY)(hd:ob≠.dead)
  (hrel:eo (gh (gh γ o none) σ.next (some ⟨p.block,base,p.top⟩)) ob ⟨p.block,base,p.top⟩ w') (hw:DS p.block w w') :
  aU F (gh (gh γ o none) σ.next (some ⟨p.block,base,p.top⟩)) { heap:=(σ.heap.put o .dead).put σ.next ob,next:=σ.next+1 } w':=by
 have si:=h.ji (o:=o) (by rw[hp];simp);have ho:o<=aY:=Nat.le_trans (Nat.le_of_lt si) h.aY;have og:(gh γ o none) σ.next=none:=by rw[ck _ _ (by omega)];exact h.j6 _ (Nat.le_refl _)
 have hx:Ext γ (gh (gh γ o none) σ.next (some ⟨p.block,base,p.top⟩)):=(yl o).trans (jH _ og);have dz:∀q,q≠o->q≠σ.next->((σ.heap.put o .dead).put σ.next ob).get q=σ.heap.get q:=by
  intro q h1 h2;rw[T.bN _ _ _ _ (Nat.le_of_lt hl),if_neg h2,T.bN _ _ _ _ ho,if_neg h1]
 have w7:∀q,q≠o->q≠σ.next->(gh (gh γ o none) σ.next (some ⟨p.block,base,p.top⟩)) q=γ q:=by
  intro q h1 h2;rw[ck _ _ h2,ck _ _ h1]
 have BR:(gh (gh γ o none) σ.next (some ⟨p.block,base,p.top⟩)) o=some none:=by
  rw[ck _ _ (by omega),bI]
 refine ⟨⟨fun q hq=>?_,fun q r hq=>?_,fun q hq=>?_,fun q q' r r' hq fu e=>?_,by simp only[];omega⟩,fun q r hq=>?_,(h.frame.turn (h.frame.own o p hp) hw).less fun q r hq=>?_⟩
 ·simp only[] at hq;rw[w7 q (by omega) (by omega)];exact h.j6 q (by omega)
 ·by_cases e1:q=o
  ·subst e1;rw[BR] at hq;cases hq
  ·by_cases e2:q=σ.next
   ·subst e2;rw[bI] at hq;cases hq;refine ⟨ob,?_,hrel⟩;simp only[];rw[T.bN _ _ _ _ (Nat.le_of_lt hl)];simp
   ·rw[w7 q e1 e2] at hq;obtain ⟨dq,h1,h2⟩:=h.obj q r hq;refine ⟨dq,by simp only[];rw[dz q e1 e2];exact h1,h2.mono hx (hw.block _ fun e=>e1 (h.inj q o r p hq hp e))⟩
 ·by_cases e1:q=o
  ·subst e1;simp only[];rw[T.bN _ _ _ _ (Nat.le_of_lt hl),if_neg (by omega),T.bN _ _ _ _ ho];simp
  ·by_cases e2:q=σ.next
   ·subst e2;rw[bI] at hq;cases hq
   ·rw[w7 q e1 e2] at hq;simp only[];rw[dz q e1 e2];exact h.gone q hq
 ·have n1:q≠o:=fun e=>by rw[e,BR] at hq;cases hq
  have n2:q'≠o:=fun e=>by rw[e,BR] at fu;cases fu
  by_cases e1:q=σ.next<;>by_cases e2:q'=σ.next
  ·rw[e1,e2]
  ·rw[e1,bI] at hq;cases hq;rw[w7 q' n2 e2] at fu;exact absurd (h.inj q' o r' p fu hp e.symm) n2
  ·rw[e2,bI] at fu;cases fu;rw[w7 q n1 e1] at hq;exact absurd (h.inj q o r p hq hp e) n1
  ·rw[w7 q n1 e1] at hq;rw[w7 q' n2 e2] at fu;exact h.inj q q' r r' hq fu e
 ·have n1:q≠o:=fun e=>by rw[e,BR] at hq;cases hq
  by_cases e2:q=σ.next
  ·subst e2;simp only[];rw[T.bN _ _ _ _ (Nat.le_of_lt hl)];simp only[if_true];intro hh;exact hd (Option.some.inj hh)
  ·rw[w7 q n1 e2] at hq;simp only[];rw[dz q n1 e2];exact h.live q r hq
 ·have n1:q≠o:=fun e=>by rw[e,BR] at hq;cases hq
  by_cases e2:q=σ.next
  ·subst e2;rw[bI] at hq;cases hq;exact ⟨o,p,hp,rfl⟩
  ·rw[w7 q n1 e2] at hq;exact ⟨q,r,hq,rfl⟩
theorem Step.grow{F:dN}{γ:aT}{σ:AS}{w:World}(h:aU F γ σ w){o:Nat}(ob:ai)(q:Option Place)(hp:γ o≠none)(hl:σ.next<aY) :
  Step γ σ (gh (gh γ o none) σ.next q) { heap:=(σ.heap.put o .dead).put σ.next ob,next:=σ.next+1 }:=by
 have si:=h.ji hp;have ho:o<=aY:=Nat.le_trans (Nat.le_of_lt si) h.aY;have og:(gh γ o none) σ.next=none:=by rw[ck _ _ (by omega)];exact h.j6 _ (Nat.le_refl _)
 refine ⟨(yl o).trans (jH q og),fun a ha hg=>?_,Nat.le_succ _,fun a ha hg=>?_⟩
 ·rw[ck _ _ (by omega),ck _ _ (fun e=>hp (by rw[<-e];exact hg))];exact hg
 ·simp only[];rw[T.bN _ _ _ _ (Nat.le_of_lt hl),if_neg (by omega),T.bN _ _ _ _ ho,if_neg (fun e=>hp (by rw[<-e];exact hg))]
theorem BJ(xp:Nat):∀(r c:Nat),4 * c<=5 * xp+2048->4 * Builtin.growBy xp r c<=5 * xp+2048
 | 0,c,h=>by simpa [Builtin.growBy] using h
 | r+1,c,h=>by
   unfold Builtin.growBy;split
   ·exact h
   ·exact BJ xp r _ (by omega)
theorem IZ{xp gE:Nat}(h:gE<xp):4 * Builtin.nextslicecap xp gE<=5 * xp+2048:=by
 unfold Builtin.nextslicecap;split
 ·omega
 ·split
  ·omega
  ·exact BJ xp 4 gE (by omega)
theorem Ap(z:Array Value)(n:Nat):(Builtin.zeroCells z n).size=n * z.size:=by simp[Builtin.zeroCells]
section
variable{F:dN}{P:Program}{E:Env}(hE:cL P E){γ:aT}{σ:AS}{w:World}{t:aE}{ρ:Operand->Value}
include hE
omit hE in
theorem yF{x:AV}{n:Nat}(h:iZ x=some n){y:Value}(hx:aw γ x y):(Builtin.lenOf y).run P w=.ok n w:=by
 unfold iZ at h;split at h
 ·simp only[aw] at hx;obtain ⟨a,c,rfl,_⟩:=hx;simp only[Option.some.injEq] at h;subst h;rfl
 ·rw[au] at hx;subst hx;simp only[Option.some.injEq] at h;subst h;rfl
 ·rw[au] at hx;subst hx;simp only[Option.some.injEq] at h;subst h;rfl
 ·cases h
theorem zQ{ts:Array TypeId}{tt ty xt:TypeId}{ys:Array Value}{r xr er:dd}{elem:TypeId}{a:Addr}{len c n:Nat}{x:Value}{new:Array Value}{w':World}
  (h0:ts[0]?=some ty) (h1:ts[1]?=some xt) (h2:ys[0]?=some (.slice (some a) len c)) (h3:ys[1]?=some x) (hr:E.ty ty=some r) (hd:r.bp=.slice elem) (yz:E.ty xt=some xr) (DE:∀k,xr.bp≠.int k)
  (fN:E.ty elem=some er) (hn:(Builtin.lenOf x).run P w=.ok n w) (hf:(Builtin.firstCells er.info.size n x).run P w=.ok new w) (hle:len+n<=c)
  (kV:(storeCells (a.add (len * er.info.size)) new.toList).run P w=.ok () w') :
  (Builtin.append_ ts tt ys).run P w=.ok (.slice (some a) (len+n) c) w':=by
 have hz:(match xr.bp with|.int _=>true|_=>false)=false:=by
  split
  ·exact absurd ‹_› (DE _)
  ·rfl
 unfold Builtin.append_;simp only[h0,h1,h2,h3,Sem.run_bind,bn hE hr w,hd,Result.andThen_ok,bY hE fN w,bn hE yz w,Sem.run_pure,hz,Bool.false_eq_true,if_false,hn,if_pos hle,Bool.not_false,if_true,hf,kV]
theorem Gx{ts:Array TypeId}{tt ty xt:TypeId}{ys:Array Value}{r xr er:dd}{elem:TypeId}{base:Option Addr}{len c n:Nat}{x z:Value}{gE new:Array Value}
  (h0:ts[0]?=some ty) (h1:ts[1]?=some xt) (h2:ys[0]?=some (.slice base len c)) (h3:ys[1]?=some x) (hr:E.ty ty=some r) (hd:r.bp=.slice elem) (yz:E.ty xt=some xr) (DE:∀k,xr.bp≠.int k)
  (fN:E.ty elem=some er) (hz:er.info.zero=some z) (hn:(Builtin.lenOf x).run P w=.ok n w) (hf:∀w',w'.heap=w.heap->(Builtin.firstCells er.info.size n x).run P w'=.ok new w') (an:¬len+n<=c)
  (F5:∀w',w'.heap=w.heap->(Builtin.firstCells er.info.size len (.slice base len c)).run P w'=.ok gE w') (Xt:(len+n) * er.info.bytes<=140737488355328/\len+n<=4611686018427387904) (wZ:er.info.bytes<=65536) :
  ∃cap,len+n<=cap/\(Builtin.append_ ts tt ys).run P w=.ok (.slice (some ⟨w.heap.size,0,none⟩) (len+n) cap) { w with heap:=w.heap.push (.cells (gE++new++Builtin.zeroCells z.cells (cap - (len+n))) elem),drawn:=w.drawn+1 }:=by
 have NX:(match xr.bp with|.int _=>true|_=>false)=false:=by
  split
  ·exact absurd ‹_› (DE _)
  ·rfl
 have w8:¬(((len+n:Nat):Int)>IntKind.i64.max/\((false=true)\/er.info.bytes=0)):=by
  intro hh;have:=hh.1;unfold IntKind.max IntKind.signed IntKind.bits at this;simp at this;omega
 have gA:¬(Builtin.nextslicecap (len+n) c * er.info.bytes>2 ^ 48):=by
  have:=IZ (by omega:c<len+n);have h2:=Nat.mul_le_mul_right er.info.bytes this;rw[Nat.add_mul,Nat.mul_assoc,Nat.mul_assoc] at h2;have h3:=Xt.1;have h4:2048 * er.info.bytes<=2048 * 65536:=Nat.mul_le_mul_left _ wZ;generalize (len+n) * er.info.bytes=u at *;generalize Builtin.nextslicecap (len+n) c * er.info.bytes=v at *;omega
 let w1:World:={ w with drawn:=w.drawn+1 }
 refine ⟨(Question.appendCap (len+n) c elem).cut (w.tape w.drawn (.appendCap (len+n) c elem)),?_,?_⟩
 ·simp only[Question.cut];omega
 ·unfold Builtin.append_;have xg:w1.heap=w.heap:=rfl;have e1:=hf w1 xg;have e2:=F5 w1 xg;have hq:(Question.appendCap (len+n) c elem).forced=false:=rfl;simp only[h0,h1,h2,h3,Sem.run_bind,bn hE hr w,hd,Result.andThen_ok,bY hE fN w,bn hE yz w,Sem.run_pure,NX,Bool.false_eq_true,if_false,hn,if_neg an,Bool.not_false,if_true,mT hE fN w];have hmax':¬(((len+n:Nat):Int)>IntKind.i64.max/\(False\/er.info.bytes=0)):=by simpa using w8
  rw[if_neg hmax'];simp only[Sem.run_bind,mT hE fN w,Result.andThen_ok,if_neg gA,run_choose,hq,Bool.false_eq_true,if_false];have hw1':({ heap:=w.heap,tape:=w.tape,drawn:=w.drawn+1,os:=w.os,output:=w.output }:World)=w1:=rfl;simp only[hw1',mT hE fN w1,Result.andThen_ok,run_askRoom,e1,e2,mU hE fN w1 hz,newRow,Sem.run_bind,run_newObj,Sem.run_pure];rfl
theorem Kb(hR:aU F γ σ w){ts:Array TypeId}{tt ty xt:TypeId}{ys:Array Value}{xr:dd}{s x v:AV}{cJ:AS}{s' x':Value}(h:nw E σ ty s x=some (v,cJ))(hs:aw γ s s')(hx:aw γ x x')
  (h0:ts[0]?=some ty) (h1:ts[1]?=some xt) (h2:ys[0]?=some s') (h3:ys[1]?=some x') (yz:E.ty xt=some xr) (DE:∀k,xr.bp≠.int k) :
  ∃ay w' u,(Builtin.append_ ts tt ys).run P w=.ok u w'/\aw ay v u/\aU F ay cJ w'/\Step γ σ ay cJ:=by
 unfold nw at h;cases hr:E.ty ty with
 | none=>rw[hr] at h;cases h
 | some r=>
   rw[hr] at h;simp only[] at h;split at h
   ·rename_i elem hd;split at h
    ·rename_i er n len fN jg IE;split at h
     ·rename_i new gE z BS Tl hz;split at h
      ·cases h
      ·rename_i hb;simp only[Bool.and_eq_true] at hb;obtain ⟨⟨⟨⟨⟨⟨⟨iW,lJ⟩,lU⟩,BM⟩,Du⟩,Dw⟩,NH⟩,Tc⟩:=hb;have Tc:BD elem=false:=by simpa using Tc
       have iW:=And.intro (nB1 iW.1) (nB1 iW.2);have lJ:=nB1 lJ;have lU:=gZ lU;have BM:=nQ1 BM;have Du:=nQ1 Du;have Dw:=nQ1 Dw;have uS:aG γ (ofValue z).cells z.cells.toList:=fH (dg γ z);have sk:z.cells.size=er.info.size:=by have:=bB uS;rw[BM] at this;simpa using this
       have ik:=yF (P:=P) (w:=w) jg hx;obtain ⟨cn,FM,BQ⟩:=vo (P:=P) hR.toRel BS hx;obtain ⟨co,ZB,PY⟩:=vo (P:=P) hR.toRel Tl hs;have Mc:=bB BQ;have PX:=bB PY;simp only[Array.length_toList] at Mc PX;have fresh:∀(base:Option Addr) (c:Nat),s'=.slice base len c->¬len+(n+1)<=c->∃cap,len+(n+1)<=cap /\
         (Builtin.append_ ts tt ys).run P w=.ok (.slice (some ⟨w.heap.size,0,none⟩) (len+(n+1)) cap) { w with heap:=w.heap.push (.cells (co++cn++Builtin.zeroCells z.cells (cap - (len+(n+1)))) elem),drawn:=w.drawn+1 }:=by
        intro base c e an;subst e;exact Gx hE h0 h1 h2 h3 hr hd yz DE fN hz ik FM an ZB iW lJ
       have hwd:aU F γ σ { w with drawn:=w.drawn+1 }:=hR.heap rfl;have jD:∀cap,len+(n+1)<=cap->(co++cn++Builtin.zeroCells z.cells (cap - (len+(n+1)))).size=cap * er.info.size:=by
        intro cap gA;simp only[Array.size_append,Ap,sk,Mc,PX,Du,Dw];rw[<-Nat.add_mul,<-Nat.add_mul];congr 1;omega
       have Ef:∀(ay:aT) (cap base:Nat) (w':World) (b top:Nat),Ext γ ay->len+(n+1)<=cap->w'.heap[b]?=some (.cells (co++cn++Builtin.zeroCells z.cells (cap - (len+(n+1)))) elem) ->
         eo ay (.cells (gE++new) elem) ⟨b,0,cap * er.info.size⟩ w':=by
        intro ay cap base w' b top yy gA XM;refine ⟨_,XM,⟨jD cap gA,fun h=>absurd h (by rw[Tc];simp)⟩,?_,fun i u hu=>?_⟩
        ·simp only[List.length_append,Du,Dw];rw[<-Nat.add_mul,Nat.zero_add];exact Nat.mul_le_mul_right _ gA
        ·obtain ⟨y,hy,KA⟩:=dQ (fA PY BQ) i u hu;refine ⟨y,?_,KA.mono yy _ _⟩;have hi:i<(co.toList++cn.toList).length:=(lE1.1 hy).1;have kU:i<(co++cn).size:=by simpa using hi
         rw[Nat.zero_add,Array.getElem?_append_left kU];have:(co++cn)[i]?=(co.toList++cn.toList)[i]?:=by rw[<-Array.getElem?_toList,Array.toList_append]
         rw[this];exact hy
       have rZ:∀(ay:aT) (cap:Nat),len+(n+1)<=cap->ay σ.next=some (some ⟨w.heap.size,0,cap * er.info.size⟩)->aw ay (.slice σ.next 0 (len+(n+1)) (.grown er.info.size)) (.slice (some ⟨w.heap.size,0,none⟩) (len+(n+1)) cap):=by
        intro ay cap gA hg;simp only[aw];exact ⟨_,_,rfl,.inr (by unfold gY;rw[hg]),gA,by unfold pa;rw[hg];simp⟩
       have plain:(base:Option Addr)->(c:Nat)->s'=.slice base len c->¬len+(n+1)<=c->v=.slice σ.next 0 (len+(n+1)) (.grown er.info.size)->cJ={ heap:=σ.heap.put σ.next (.cells (gE++new) elem),next:=σ.next+1 } ->
         ∃ay w' u,(Builtin.append_ ts tt ys).run P w=.ok u w'/\aw ay v u/\aU F ay cJ w'/\Step γ σ ay cJ:=by
        intro base c e an ev es;obtain ⟨cap,gA,dB⟩:=fresh base c e an;subst ev es;have hm:=hwd.more lU (.cells (gE++new) elem);have og:γ σ.next=none:=hR.j6 _ (Nat.le_refl _)
        have dz:(σ.heap.put σ.next (ai.cells (gE++new) elem)).get σ.next=some (.cells (gE++new) elem):=by rw[T.bN _ _ _ _ (Nat.le_of_lt lU)];simp
        refine ⟨_,_,_,dB,rZ _ cap gA (bI γ σ.next _),hm.place (id:=σ.next) (base:=0) (top:=cap * er.info.size) (by simp) og dz (by simp) _ ?_,Step.place _ og σ (Nat.le_refl _) (Step.more hR lU _)⟩;exact Ef _ cap 0 _ _ 0 (jH _ og) gA (by simp)
       split at h
       ·simp only[Option.some.injEq,Prod.mk.injEq] at h;rw[au] at hs;have hlen:∃m,s'=.slice none m 0/\m=len:=by
         refine ⟨_,hs,?_⟩;simpa [iZ] using IE
        obtain ⟨m,e,rfl⟩:=hlen;exact plain none 0 e (by omega) h.1.symm h.2.symm
       ·rename_i o off m cap;simp only[iZ,Option.some.injEq] at IE;subst IE;have IK:=hs;simp only[aw] at hs;obtain ⟨a,c,rfl,ha,uR,w4⟩:=hs;split at h
        ·rename_i s0;split at h
         ·rename_i Iy;rw[Bool.and_eq_true] at Iy;have vD:=nQ1 Iy.1;subst vD;have BP:∃l,σ.heap.get o=some (.cells l elem):=by
           have:=Iy.2;unfold Ca at this;split at this
           ·rename_i e0 _;have:=nQ1 this;subst this;exact ⟨_,by assumption⟩
           ·cases this
          obtain ⟨l0,tj⟩:=BP;simp only[Option.some.injEq,Prod.mk.injEq] at h;obtain ⟨rfl,rfl⟩:=h;simp only[] at w4;have qm:γ o≠none:=fun e=>by unfold pa at w4;rw[e] at w4;exact w4
          obtain ⟨p,hp,tu⟩:=hR.find tj (by simp) qm;have xf:p.base+(off+c * er.info.size)<=p.top:=by unfold pa at w4;rw[hp] at w4;exact w4
          by_cases jN:m+(n+1)<=c
          ·have ha:gY γ o off a:=ha.resolve_left (by omega);obtain rfl:=ha.at hp;obtain ⟨cb,Xa,⟨Zy,hbf⟩,BN,Iz⟩:=tu;have xa:∀y∈cn.toList,y.oneCell'=true:=by
            intro y hy;obtain ⟨i,hi,e⟩:=List.mem_iff_getElem.1 hy;have Qr:i<new.length:=by simpa [Mc] using hi
            obtain ⟨x,hx,ll⟩:=dQ BQ i new[i] (by simp[Qr]);rw[List.getElem?_eq_getElem hi,e] at hx;cases hx
            exact D6 ll (List.all_eq_true.1 NH _ (List.getElem_mem Qr))
           have te:p.base+off+m * er.info.size+cn.toList.length<=cb.size:=by
            rw[Array.length_toList,Mc,Dw,Zy];have:=Nat.mul_le_mul_right er.info.size jN;rw[Nat.add_mul] at this;omega
           have kV:=run_storeCells_at (P:=P) p.block (p.base+off+m * er.info.size) elem cn.toList 0 cb w Xa (by omega) xa;rw[Nat.add_zero] at kV;have BL:(⟨p.block,p.base+off,none⟩:Addr).add (m * er.info.size)=⟨p.block,p.base+off+m * er.info.size,none⟩:=lu _ _ _;have dB:=zQ hE (tt:=tt) h0 h1 h2 h3 hr hd yz DE fN ik (FM w rfl) jN (by rw[BL];exact kV);have XH:(cb.toList.take (p.base+off+m * er.info.size)++cn.toList++cb.toList.drop (p.base+off+m * er.info.size+cn.toList.length))=setFrom cb.toList (p.base+off+m * er.info.size) cn.toList:=rfl;rw[XH] at dB;have Mb:cb.toList.length=cb.size:=by simp
           have hold:co.toList=(cb.toList.drop (p.base+off)).take (m * er.info.size):=by
            have:=ZB w rfl;have hl:=run_loadCells_list (P:=P) w ⟨p.block,p.base+off,none⟩ ((cb.toList.drop (p.base+off)).take (m * er.info.size)) (by
             intro j u hu;rw[lu];rw[List.getElem?_take] at hu;split at hu
             ·rw[List.getElem?_drop] at hu;simp only[World.cell?,Xa,Option.isSome_none,Bool.false_eq_true,if_false];simpa using hu
             ·simp at hu)
            have oS:((cb.toList.drop (p.base+off)).take (m * er.info.size)).length=m * er.info.size:=by
             rw[List.length_take,List.length_drop,Mb];rw[Array.length_toList] at te;omega
            rw[oS] at hl;simp only[Builtin.firstCells] at this;rw[hl] at this;simp only[Result.ok.injEq,and_true] at this;rw[<-this]
           refine ⟨_,_,_,dB,?_,aU.move (base:=p.base+off) hR hp lU (by simp) ?_ (Fc w p.block _),Step.grow hR _ _ qm lU⟩
           ·simp only[aw];refine ⟨_,_,rfl,.inr ?_,jN,?_⟩
            ·unfold gY;rw[bI];simp
            ·unfold pa;rw[bI];simp only[];omega
           ·have yy:Ext γ (gh (gh γ o none) σ.next (some ⟨p.block,p.base+off,p.top⟩)):=(Step.grow hR (.cells (gE++new) elem) _ qm lU).ext;refine ⟨_,setRow_heap w p.block cb _ elem _ Xa,?_,?_,fun i u hu=>?_⟩
            ·simp only[List.size_toArray];rw[gR _ _ _ (by rw[Mb];exact te),Mb,Zy];exact ⟨rfl,fun h=>absurd h (by rw[Tc];simp)⟩
            ·simp only[List.length_append,Du,Dw];have:=Nat.mul_le_mul_right er.info.size jN;rw[Nat.add_mul] at this;omega
            ·obtain ⟨y,hy,KA⟩:=dQ (fA PY BQ) i u hu;refine ⟨y,?_,KA.mono yy _ _⟩;simp only[List.getElem?_toArray];rw[ki _ _ _ _ (by rw[Mb];exact te)];have yq:co.toList.length=m * er.info.size:=by rw[Array.length_toList,PX,Du]
             by_cases hi:i<m * er.info.size
             ·rw[if_neg (by omega)];rw[List.getElem?_append_left (by rw[yq];exact hi),hold,List.getElem?_take,if_pos hi,List.getElem?_drop] at hy;exact hy
             ·rw[List.getElem?_append_right (by rw[yq];omega),yq] at hy;have tf:=(lE1.1 hy).1;rw[if_pos (by omega)];rw[show p.base+off+i - (p.base+off+m * er.info.size)=i - m * er.info.size by omega];exact hy
          ·obtain ⟨cap,gA,dB⟩:=fresh _ c rfl jN;have hk:=hwd.kill (o:=o) qm;have hm:=hk.more lU (.cells (gE++new) elem);have si:=hR.ji qm;have og:(gh γ o none) σ.next=none:=by rw[ck _ _ (by omega)];exact hR.j6 _ (Nat.le_refl _)
           have dz:((σ.heap.put o .dead).put σ.next (ai.cells (gE++new) elem)).get σ.next=some (.cells (gE++new) elem):=by rw[T.bN _ _ _ _ (Nat.le_of_lt lU)];simp
           have kV:=Step.grow hR (.cells (gE++new) elem) (some ⟨w.heap.size,0,cap * er.info.size⟩) qm lU;refine ⟨_,_,_,dB,rZ _ cap gA (bI _ σ.next _),hm.place (id:=σ.next) (base:=0) (top:=cap * er.info.size) (by simp) og dz (by simp) _ ?_,kV⟩;exact Ef _ cap 0 _ _ 0 kV.ext gA (by simp)
         ·cases h
        ·rename_i c0;simp only[] at w4;subst w4;split at h
         ·rename_i rW;simp only[Option.some.injEq,Prod.mk.injEq] at h;exact plain (some a) c rfl (fun hle=>by rw[Nat.ble_eq_true_of_le hle] at rW;cases rW) h.1.symm h.2.symm
         ·rename_i rW;have jN:=nB1 rW;split at h
          ·rename_i l0 e0 tj;split at h
           ·rename_i te;have te:=nB1 te;simp only[Option.some.injEq,Prod.mk.injEq] at h;obtain ⟨rfl,rfl⟩:=h;have ha:gY γ o off a:=ha.resolve_left (by omega);have FJ:gY γ o (off+m * er.info.size) (a.add (m * er.info.size)):=by
             unfold gY at ha ⊢;cases hg:γ o with
             | none=>rw[hg] at ha;exact ha.elim
             | some q=>
               rw[hg] at ha;cases q with
               | none=>trivial
               | some p=>simp only[] at ha ⊢;rw[ha,lu,Nat.add_assoc]
            obtain ⟨w',kV,h5,h6⟩:=aU.store (P:=P) hR tj FJ te BQ NH;have dB:=zQ hE (tt:=tt) h0 h1 h2 h3 hr hd yz DE fN ik (FM w rfl) jN kV;refine ⟨γ,w',_,dB,?_,h5,h6⟩;simp only[aw];exact ⟨_,_,rfl,.inr ha,jN,rfl⟩
           ·cases h
          ·cases h
       ·cases h
     ·cases h
    ·rename_i er len fN jg IE;have ik:=yF (P:=P) (w:=w) jg hx;have w6:∃new:Array Value,(Builtin.firstCells er.info.size 0 x').run P w=.ok new w/\new.toList=[]:=by
      unfold iZ at jg;split at jg
      ·simp only[aw] at hx;obtain ⟨a,c,rfl,_⟩:=hx;refine ⟨#[],?_,rfl⟩;simp only[Builtin.firstCells,Nat.zero_mul];simpa using run_loadCells_list (P:=P) w a [] (by simp)
      ·rw[au] at hx;subst hx;exact ⟨#[],rfl,rfl⟩
      ·rename_i sb;rw[au] at hx;subst hx;refine ⟨_,rfl,?_⟩;have:sb.extract 0 0=.empty:=by simp
       rw[this];simp
      ·cases jg
     obtain ⟨new,hf,lA⟩:=w6;have hz:(match xr.bp with|.int _=>true|_=>false)=false:=by
      split
      ·exact absurd ‹_› (DE _)
      ·rfl
     have main:∀(base:Option Addr) (c:Nat),s'=.slice base len c->len<=c->(Builtin.append_ ts tt ys).run P w=.ok s' w:=by
      intro base c e hle;subst e;unfold Builtin.append_;cases base with
      | none=>simp only[h0,h1,h2,h3,Sem.run_bind,bn hE hr w,hd,Result.andThen_ok,bY hE fN w,bn hE yz w,Sem.run_pure,hz,Bool.false_eq_true,if_false,ik,Nat.add_zero,if_pos hle,Bool.not_false,if_true,hf]
      | some a=>simp only[h0,h1,h2,h3,Sem.run_bind,bn hE hr w,hd,Result.andThen_ok,bY hE fN w,bn hE yz w,Sem.run_pure,hz,Bool.false_eq_true,if_false,ik,Nat.add_zero,if_pos hle,Bool.not_false,if_true,hf,lA,storeCells]
     split at h
     ·simp only[Option.some.injEq,Prod.mk.injEq] at h;obtain ⟨rfl,rfl⟩:=h;have IK:=hs;simp only[iZ,Option.some.injEq] at IE;simp only[aw] at hs;obtain ⟨a,c,e,_,uR,_⟩:=hs;rw[IE] at e uR;exact ⟨γ,w,s',main _ c e uR,IK,hR,.refl γ σ⟩
     ·rename_i l c;split at h
      ·rename_i rW;simp only[Option.some.injEq,Prod.mk.injEq] at h;obtain ⟨rfl,rfl⟩:=h;simp only[iZ,Option.some.injEq] at IE;have IK:=hs;rw[au] at hs;have rW:=nB1 rW;rw[IE] at hs rW;exact ⟨γ,w,s',main none c hs rW,IK,hR,.refl γ σ⟩
      ·cases h
     ·cases h
    ·cases h
   ·cases h
theorem Pp(hR:aU F γ σ w){ts:Array TypeId}{tt ty:TypeId}{ys:Array Value}{d x v:AV}{cJ:AS}{d' x':Value}(h:Km E σ ty d x=some (v,cJ))(z6:aw γ d d')(hx:aw γ x x')
  (h0:ts[0]?=some ty) (h2:ys[0]?=some d') (h3:ys[1]?=some x') :
  ∃w' u,(Builtin.copy_ ts tt ys).run P w=.ok u w'/\aw γ v u/\aU F γ cJ w'/\Step γ σ γ cJ:=by
 unfold Km at h;cases hr:E.ty ty with
 | none=>rw[hr] at h;cases h
 | some r=>
   rw[hr] at h;simp only[] at h;split at h
   ·rename_i elem hd;split at h
    ·rename_i er n o off len cap fN jg;have ik:=yF (P:=P) (w:=w) jg hx;have vz:=z6;simp only[aw] at z6;obtain ⟨a,c,rfl,ha,uR,_⟩:=z6;split at h
     ·rename_i Qb;simp only[Option.some.injEq,Prod.mk.injEq] at h;obtain ⟨rfl,rfl⟩:=h;have w6:∃new:Array Value,(Builtin.firstCells er.info.size 0 x').run P w=.ok new w/\new.toList=[]:=by
       unfold iZ at jg;split at jg
       ·simp only[aw] at hx;obtain ⟨a,c,rfl,_⟩:=hx;refine ⟨#[],?_,rfl⟩;simp only[Builtin.firstCells,Nat.zero_mul];simpa using run_loadCells_list (P:=P) w a [] (by simp)
       ·rw[au] at hx;subst hx;exact ⟨#[],rfl,rfl⟩
       ·rename_i sb;rw[au] at hx;subst hx;refine ⟨_,rfl,?_⟩;have:sb.extract 0 0=.empty:=by simp
        rw[this];simp
       ·cases jg
      obtain ⟨new,hf,lA⟩:=w6;refine ⟨w,goInt 0,?_,aS γ _,hR,.refl γ σ⟩;unfold Builtin.copy_;simp only[h0,h2,h3,Sem.run_bind,bn hE hr w,hd,Result.andThen_ok,ik,bY hE fN w,Qb,hf,lA,storeCells,Sem.run_pure];rfl
     ·rename_i k Qb;split at h
      ·rename_i new l e BS hg;split at h
       ·rename_i hb;rw[Bool.and_eq_true] at hb;have iW:=nB1 hb.1;simp only[Option.some.injEq,Prod.mk.injEq] at h;obtain ⟨rfl,rfl⟩:=h;have hlen:k+1<=len:=by have:=Nat.min_le_right n len;have h9:n.min len=min n len:=rfl;omega
        have ha:gY γ o off a:=ha.resolve_left (by omega);obtain ⟨cn,FM,BQ⟩:=Ea (P:=P) hR.toRel BS hx;obtain ⟨w',kV,h5,h6⟩:=aU.store (P:=P) hR hg ha iW BQ hb.2;refine ⟨w',_,?_,aS γ _,h5,h6⟩;unfold Builtin.copy_;simp only[h0,h2,h3,Sem.run_bind,bn hE hr w,hd,Result.andThen_ok,ik,bY hE fN w,Qb,FM,kV,Sem.run_pure]
       ·cases h
      ·cases h
    ·cases h
   ·cases h
end
