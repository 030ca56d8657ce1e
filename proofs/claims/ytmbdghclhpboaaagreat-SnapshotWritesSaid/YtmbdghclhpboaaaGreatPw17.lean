/- Part of the proof: SyL Num Codec Long SyM. Conditions: as each states. -/
import Derived.Test.YtmbdghclhpboaaaGreatPw16
import Derived.Test.YtmbdghclhpboaaaGreatRows
import Derived.WalkSpells
import Derived.WalkLawsBesides
import Derived.BigQuiet
import Derived.Lib.Hide
import Derived.Deep.RegionLaw
set_option linter.all false
set_option maxRecDepth 100000
set_option maxHeartbeats 8000000
namespace Go.Proofs.YtmbdghclhpboaaaGreat.Ev
open Go.RowKit
def kq(base:Nat)(w0:World):aH:=
 ⟨fun w S=>(∀b,S b↔base<=b/\b<w0.heap.size)/\∀b,base<=b->b<w0.heap.size->w.heap[b]?=w0.heap[b]?,fun {w S b} h hb=>by
  obtain ⟨h1,h2⟩:=(h.1 b).1 hb;have:=h.2 b h1 h2;rw[Array.getElem?_eq_getElem h2] at this;exact (Array.getElem?_eq_some_iff.1 this).1,fun {w w' S} h hk=>⟨h.1,fun b h1 h2=>(hk b ((h.1 b).2 ⟨h1,h2⟩)).trans (h.2 b h1 h2)⟩⟩
theorem kq.cell{base:Nat}{w0 w:World}{S:Nat->Prop}(h:(kq base w0).at_ w S){a:Addr}{v:Value}(hb:base<=a.block)(hc:w0.cell? a=some v):w.cell? a=some v:=by
 have ah:a.block<w0.heap.size:=by
  rcases Nat.lt_or_ge a.block w0.heap.size with h1|h1
  ·exact h1
  ·unfold World.cell? at hc;simp[Array.getElem?_eq_none h1] at hc
 have e:=h.2 a.block hb ah;unfold World.cell? at hc ⊢;rw[e];exact hc
theorem eG.snap{α:Type}{P:Program}{E:Env}(hE:ch P E){base:Nat}{w0:World}{ty:TypeId}{size:Nat}{enc:α->List Value}{l:List α}{oa:Option Addr}(hk:∀a,(enc a).length=size)(j7:∃r,E.ty ty=some r/\r.info.size=size/\bG r.bg=true)(h:l≠[]->∃b off,oa=some ⟨b,off,none⟩/\base<=b/\gZ w0 b off (l.flatMap enc)):eG P (kq base w0) ty size oa (fun a=>.agg (enc a).toArray) l:=fun aN=>by
 obtain ⟨b,off,rfl,hb,hl⟩:=h aN;refine ⟨_,rfl,fun w S hw q hq=>?_⟩;obtain ⟨r,hr,hs,lk⟩:=j7;rw[Addr.add_mid];refine run_loadVar_mid w b (off+q * size) ty (enc l[q]) r.bg (fun j u hj=>?_) (hE.bg ty r hr) (by unfold bG at lk;split at lk<;>simp_all) ?_
 ·have h1:=sI hk hq hj;have h2:=hl (q * size+j) u h1;rw[<-Nat.add_assoc] at h2;exact kq.cell hw hb h2
 ·rw[kN w (hE.info ty r hr)];simp[hs,hk]
theorem FK{F:di}{γ:aK}{H:List af}{w:World}{R:aH}{S T:Nat->Prop}(hR:aL F γ (hp H) w)(hl:H.length<aU)(hT:bw (cC H) w T)(lY:∀b,T b->¬F.fz b/\∀o p,γ o=some (some p)->p.block≠b)(hS:R.at_ w S)(ri:∀b,S b->¬T b/\¬F.fz b/\∀o p,γ o=some (some p)->p.block≠b) :
  aL F (fJ γ H.length none) (hp (H++[.res R])) w/\Rs F (fJ γ H.length none) (H++[.res R]) w/\Step γ (hp H) (fJ γ H.length none) (hp (H++[.res R])):=by
 have g1:∀i,i≠H.length->(fJ γ H.length none) i=γ i:=fun i h=>bU _ _ h;have g2:(fJ γ H.length none) H.length=some none:=bu ..;have g3:γ H.length=none:=hR.jv _ (Nat.le_refl _);have gs:∀i p,(fJ γ H.length none) i=some (some p)->γ i=some (some p)/\i<H.length:=fun i p h=>by
  by_cases e:i=H.length
  ·rw[e,g2] at h;cases h
  ·rw[g1 i e] at h;exact ⟨h,hR.iF (by rw[h];simp)⟩
 have lN:Ext γ (fJ γ H.length none):=fun i p h=>by
  by_cases e:i=H.length
  ·rw[e,g3] at h;cases h
  ·rw[g1 i e];exact .inl h
 have gd:(H++[af.res R]).length<=aU:=by simp;omega
 have dd:∀i,i<H.length->(hp (H++[af.res R])).heap.get i=(hp H).heap.get i:=fun i hi=>by rw[aT gd,aT (Nat.le_of_lt hl),List.getElem?_append_left hi]
 refine ⟨⟨⟨fun i hi=>?_,fun i p h=>?_,fun i h=>?_,fun i j p q h1 h2 e=>hR.inj i j p q (gs i p h1).1 (gs j q h2).1 e,gd⟩,fun i p h=>?_,hR.frame.less fun i p h=>⟨i,p,(gs i p h).1,rfl⟩⟩,?_,⟨lN,fun i hi h=>by rw[g1 i (by have:i<H.length:=hi;omega)];exact h,by show H.length<=(H++[_]).length;simp,fun i hi _=>dd i hi⟩⟩
 ·have hi:(H++[af.res R]).length<=i:=hi;simp at hi;rw[g1 i (by omega)];exact hR.jv i (by show H.length<=i;omega)
 ·obtain ⟨h1,h2⟩:=gs i p h;obtain ⟨ob,h3,h4⟩:=hR.obj i p h1;exact ⟨ob,by rw[dd i h2];exact h3,h4.mono lN rfl⟩
 ·by_cases e:i=H.length
  ·rw[e,aT gd];simp[vw]
  ·rw[g1 i e] at h;have:=hR.iF (o:=i) (by rw[h];simp);rw[dd i this];exact hR.gone i h
 ·obtain ⟨h1,h2⟩:=gs i p h;rw[dd i h2];exact hR.live i p h1
 ·refine ⟨fun b=>T b\/S b,?_,fun b hb=>?_⟩
  ·unfold cC;rw[List.map_append];exact dX.2 ⟨T,S,hT,⟨S,fun _=>False,hS,fun _ h=>h,fun _ _ h=>h,fun b=>by simp⟩,fun b x y=>(ri b y).1 x,fun b=>Iff.rfl⟩
  ·rcases hb with hb|hb
   ·exact ⟨(lY b hb).1,fun o p h=>(lY b hb).2 o p (gs o p h).1⟩
   ·exact ⟨(ri b hb).2.1,fun o p h=>(ri b hb).2.2 o p (gs o p h).1⟩
theorem ag.Hq{P:Program}{E:Env}(hE:ch P E){f:Nat}{fn:Func}(hf:E.fn f=some fn){args:List AV}{xs:List Value}{H:List af}{K:AV->List af->Prop}{ι:Type}(val:ι->AV)(Q:ι->Nat->World->Prop)(ha:AV.jP args=some xs)(eO:Nat.blt H.length aU=true)
  (c:∀w:World,Calls P f xs.toArray w (fun e w'=>∃i x,e=.returned x/\(val i).flat=some x/\Q i w.heap.size w'/\Below w.heap.size w w')) (k:∀i base w',base<=w'.heap.size->Q i base w'->K (val i) (H++[.res (kq base w')])):ag P [] f args H K:=⟨fun F γ w ys hR cx cJ rm=>by
 have e:=kL args xs ys.toList ha rm;obtain rfl:ys=xs.toArray:=by rw[<-e]
 obtain ⟨T,hT,lY⟩:=cJ.out;refine ⟨(hE.fn f fn hf).2 _ w,fun R fj=>(c w).mono ?_⟩;rintro r w' ⟨i,x,rfl,hx,hQ,hb⟩;have ky:=hR.grown hb;have fT:=il hT (fun b h=>hb.block b (iJ hT h));obtain ⟨h1,h2,h3⟩:=FK (R:=kq w.heap.size w') (S:=fun b=>w.heap.size<=b/\b<w'.heap.size) ky (gA eO) fT lY ⟨fun b=>Iff.rfl,fun _ _ _=>rfl⟩ (fun b o5=>⟨fun h=>by have:=iJ hT h;omega,fun h=>by have:=hR.frame.fV b h;have:=hR.frame.size;omega,fun o p hp e=>by have:=hR.lt hp;omega⟩);refine fj _ _ _ x w' (k i w.heap.size w' hb.size hQ) (kx _ x hx) ⟨h1,h3,fun q hq _=>?_,h2⟩;simp at hq;by_cases e:q=H.length
 ·rw[e,bu];simp
 ·rw[bU _ _ e];exact cx q (by omega) (by simp)⟩
def kF(a:Addr)(cs:List Value):aH:=
 ⟨fun w S=>(∀j u,cs[j]?=some u->w.cell? ⟨a.block,a.off+j,none⟩=some u)/\a.block<w.heap.size/\∀b,S b↔b=a.block,fun h hb=>by rw[(h.2.2 _).1 hb];exact h.2.1,fun {w w' S} h hk=>by
  have e:=hk a.block ((h.2.2 _).2 rfl);refine ⟨fun j u hj=>?_,?_,h.2.2⟩
  ·have:=h.1 j u hj;unfold World.cell? at this ⊢;simp only[] at this ⊢;rw[e];exact this
  ·have h2:=h.2.1;rw[Array.getElem?_eq_getElem h2] at e;exact (Array.getElem?_eq_some_iff.1 e).1⟩
theorem uY{F:di}{γ:aK}{H:List af}{w:World}{o:Nat}{p:Place}{xs:List Value}{e:TypeId}(hR:aL F γ (hp H) w)(cJ:Rs F γ H w)(bN:γ o=some (some p))(ho:H[o]?=some (.row xs e)\/H[o]?=some (.cells (xs.map .lit) e)) :
  aL F (fJ γ o none) (hp (H.set o (.res (kF ⟨p.block,p.base,none⟩ xs)))) w/\Rs F (fJ γ o none) (H.set o (.res (kF ⟨p.block,p.base,none⟩ xs))) w/\Step γ (hp H) (fJ γ o none) (hp (H.set o (.res (kF ⟨p.block,p.base,none⟩ xs)))):=by
 have rj:o<H.length:=by rcases ho with h|h<;>exact cM h
 have eO:H.length<=aU:=hR.aU;have g1:∀i,i≠o->(fJ γ o none) i=γ i:=fun i h=>bU _ _ h;have g2:(fJ γ o none) o=some none:=bu ..;have gs:∀i q,(fJ γ o none) i=some (some q)->γ i=some (some q)/\i≠o:=fun i q h=>by
  by_cases e:i=o
  ·rw[e,g2] at h;cases h
  ·rw[g1 i e] at h;exact ⟨h,e⟩
 have lN:Ext γ (fJ γ o none):=fun i q h=>by
  by_cases e:i=o
  ·rw[e];exact .inr g2
  ·rw[g1 i e];exact .inl h
 have gd:(H.set o (.res (kF ⟨p.block,p.base,none⟩ xs))).length<=aU:=by rw[List.length_set];exact eO
 have dd:∀i,i≠o->(hp (H.set o (.res (kF ⟨p.block,p.base,none⟩ xs)))).heap.get i=(hp H).heap.get i:=fun i hi=>by rw[aT gd,aT eO,List.getElem?_set,if_neg (Ne.symm hi)]
 have EJ:(hp (H.set o (.res (kF ⟨p.block,p.base,none⟩ xs)))).heap.get o=some .dead:=by rw[aT gd,List.getElem?_set,if_pos rfl,if_pos rj];rfl
 have AH:∀j u,xs[j]?=some u->w.cell? ⟨p.block,p.base+j,none⟩=some u:=by
  obtain ⟨ob,h1,h2⟩:=hR.obj o p bN;rw[aT eO] at h1;intro j u hj;rcases ho with ho|ho
  ·rw[ho] at h1;cases h1
   obtain ⟨c,k1,_,_,k4⟩:=h2;obtain ⟨y,k5,k6⟩:=k4 j (.lit u) (by simp[hj]);rw[al] at k6;rw[cell_of_row w p.block (p.base+j) c e (0,0) k1,k5,k6]
  ·rw[ho] at h1;cases h1
   obtain ⟨c,k1,_,_,k4⟩:=h2;obtain ⟨y,k5,k6⟩:=k4 j (.lit u) (by simp[hj]);rw[al] at k6;rw[cell_of_row w p.block (p.base+j) c e (0,0) k1,k5,k6]
 refine ⟨⟨⟨fun i hi=>?_,fun i q h=>?_,fun i h=>?_,fun i j q q' h1 h2 e=>hR.inj i j q q' (gs i q h1).1 (gs j q' h2).1 e,gd⟩,fun i q h=>?_,hR.frame.less fun i q h=>⟨i,q,(gs i q h).1,rfl⟩⟩,?_,⟨lN,fun i hi h=>by rw[g1 i (fun e=>by rw[e,bN] at h;cases h)];exact h,by show H.length<=(H.set o _).length;simp,fun i hi h=>dd i (fun e=>by rw[e,bN] at h;cases h)⟩⟩
 ·have hi:(H.set o (af.res (kF ⟨p.block,p.base,none⟩ xs))).length<=i:=hi;rw[List.length_set] at hi;rw[g1 i (by omega)];exact hR.jv i hi
 ·obtain ⟨h1,h2⟩:=gs i q h;obtain ⟨ob,h3,h4⟩:=hR.obj i q h1;exact ⟨ob,by rw[dd i h2];exact h3,h4.mono lN rfl⟩
 ·by_cases e:i=o
  ·rw[e];exact EJ
  ·rw[g1 i e] at h;rw[dd i e];exact hR.gone i h
 ·obtain ⟨h1,h2⟩:=gs i q h;rw[dd i h2];exact hR.live i q h1
 ·obtain ⟨T,hT,lY⟩:=cJ.out;have uX:(cC H)[o]?=some aA:=by
   unfold cC;rw[List.getElem?_map];rcases ho with h|h<;>rw[h]<;>rfl
  have e1:cC (H.set o (.res (kF ⟨p.block,p.base,none⟩ xs)))=(cC H).set o (kF ⟨p.block,p.base,none⟩ xs):=by unfold cC;rw[List.map_set];rfl
  have e2:(cC H).set o aA=cC H:=by
   apply List.ext_getElem?;intro j;rw[List.getElem?_set];split
   ·rename_i e;subst e;rw[uX,if_pos (cM uX)]
   ·rfl
  refine ⟨fun b=>b=p.block\/T b,?_,fun b hb=>?_⟩
  ·rw[e1];exact jo (S1:=fun b=>b=p.block) (by rw[e2];exact hT) (cM uX) ⟨AH,hR.lt bN,fun b=>Iff.rfl⟩ (fun b x y=>(lY b y).2 o p bN x.symm)
  ·rcases hb with rfl|hb
   ·exact ⟨hR.frame.own o p bN,fun i q h e=>by
     obtain ⟨h1,h2⟩:=gs i q h;exact h2 (hR.inj _ _ _ _ h1 bN e)⟩
   ·exact ⟨(lY b hb).1,fun i q h=>(lY b hb).2 i q (gs i q h).1⟩
theorem ag.SY{P:Program}{f:Nat}{args:List AV}{H:List af}{K' K:AV->List af->Prop}(c:ag P [] f args H K')
  (hk:∀v H',K' v H'->K v H'\/∃(o n:Nat) (cap:o0) (xs:List Value) (e:TypeId),v=.slice o 0 n cap/\0<n/\(H'[o]?=some (.row xs e)\/H'[o]?=some (.cells (xs.map .lit) e))/\∀b off m,K (.lit (.slice (some ⟨b,off,none⟩) n m)) (H'.set o (.res (kF ⟨b,off,none⟩ xs)))):ag P [] f args H K:=⟨fun F γ w ys hR cx cJ rm=>by
 obtain ⟨c1,c2⟩:=c.out F γ w ys hR cx cJ rm;refine ⟨c1,fun R fj=>c2 R fun v H' aq x w' k1 k2 k3=>?_⟩;rcases hk v H' k1 with h|⟨o,n,cap,xs,e,rfl,hn,ho,h⟩
 ·exact fj v H' aq x w' h k2 k3
 ·simp only[an] at k2;obtain ⟨a,m,rfl,dj,LU,_⟩:=k2;have dj:=dj.resolve_left (by omega);have rj:o<H'.length:=by rcases ho with h|h<;>exact cM h
  have Cr:aq o≠none:=k3.pl o rj (by simp);have aN:∃p,aq o=some (some p):=by
   cases hg:aq o with
   | none=>exact absurd hg Cr
   | some q=>
     cases q with
     | some p=>exact ⟨p,rfl⟩
     | none=>
       have h1:=k3.rel.gone o hg;rw[aT k3.rel.aU] at h1;rcases ho with h|h<;>rw[h] at h1<;>cases h1
  obtain ⟨p,bN⟩:=aN;unfold gz at dj;rw[bN] at dj;simp only[Nat.add_zero] at dj;subst dj;obtain ⟨h1,h2,h3⟩:=uY k3.rel k3.rs bN ho;refine fj _ _ _ _ w' (h _ _ m) (aM _ _) ⟨h1,k3.step.trans h3,fun q hq _=>?_,h2⟩;by_cases e:q=o
  ·rw[e,bu];simp
  ·rw[bU _ _ e];exact k3.pl q (by simpa using hq) (by simp)⟩
def zP{α:Type}(enc:α->List Value)(v:Value)(l:List α):aH:=
 ⟨fun w S=>(l=[]/\v=.slice none 0 0/\∀b,¬S b)\/∃a m,v=.slice (some a) l.length m/\a.spot=none/\l≠[]/\(kF a (l.flatMap enc)).at_ w S,fun h hb=>by
  rcases h with ⟨_,_,h⟩|⟨a,m,_,_,_,h⟩
  ·exact absurd hb (h _)
  ·exact (kF _ _).lt h hb,fun h hk=>by
  rcases h with h|⟨a,m,h1,h2,h3,h⟩
  ·exact .inl h
  ·exact .inr ⟨a,m,h1,h2,h3,(kF _ _).lP h hk⟩⟩
theorem zP.sl{α:Type}{enc:α->List Value}{v:Value}{l:List α}{w:World}{S:Nat->Prop}(h:(zP enc v l).at_ w S):∃oa m,v=.slice oa l.length m/\(l≠[]->∃b off,oa=some ⟨b,off,none⟩/\gZ w b off (l.flatMap enc)):=by
 rcases h with ⟨rfl,rfl,_⟩|⟨a,m,rfl,ha,aN,h⟩
 ·exact ⟨none,0,rfl,fun h=>absurd rfl h⟩
 ·refine ⟨some a,m,rfl,fun _=>⟨a.block,a.off,?_,fun j u hj=>h.1 j u hj⟩⟩;rw[<-ha]
theorem eU.FN{P:Program}{E:Env}{S:List Nat}{t:ax}{H:List af}{K:AV->List af->Prop}(hE:ch P E){α:Type}{enc:α->List Value}{k:Nat}{ty elem:TypeId}(hA:jE E ty elem k)(hk:∀a,(enc a).length=k)(h0:0<k)(h1:∀a,∀u∈enc a,u.oneCell'=true){c:Call}{s x:Operand}{A:Option Addr}{m:Nat}{l:List α}{i j:Nat}{R Rr:aH}{R':Value->aH}
  (hc:c={ callee:=.builtin .append,args:=#[s,x],argTypes:=#[ty,ty] }) {sv:AV} (hs:aE t s=some sv) (U0:∀γ x,an γ sv x->∃A0,x=.slice A0 0 0) (hx:aE t x=some (.lit (.slice A l.length m))) (aN:l≠[]) (hi:H[i]?=some (.res R)) (Jj:H[j]?=some (.res Rr))
  (bq:∀w S,Rr.at_ w S->∃b off,A=some ⟨b,off,none⟩/\gZ w b off (l.flatMap enc)) (hj:∀v' w S1 S2,R.at_ w S1->(zP enc v' l).at_ w S2->(∀b,S1 b->S2 b->False)->(R' v').at_ w (fun b=>S1 b\/S2 b)) (hlen:l.length<=2147483648)
  (kk:∀A n,lS H i (.res (R' (.slice (some A) l.length n))) fun H'=>K (.lit (.slice (some A) l.length n)) H'):eU P S t H (.call c) K:=
 ⟨fun F γ w ρ hR cx cJ bD o ho=>by
  subst hc;obtain ⟨r,hr,hu⟩:=hA.ty;obtain ⟨er,z,he,qh,hz,tN,hb⟩:=hA.el;have q1:=bD s _ (by simp[Op.operands,Call.operands]) hs;have q2:=bD x _ (by simp[Op.operands,Call.operands]) hx;rw[al] at q2;obtain ⟨A0,q1⟩:=U0 γ _ q1;obtain ⟨S1,LG,AX⟩:=x9 hR cJ hi;obtain ⟨T0,r6,_⟩:=cJ.out;obtain ⟨Sr,_,Ur,_⟩:=db (i:=j) (r:=Rr) r6 (by unfold cC;rw[List.getElem?_map,Jj];rfl);obtain ⟨b,off,rfl,nT⟩:=bq w Sr Ur;have nV:0<l.length:=List.length_pos_iff.2 aN;have rp:z.cells.size=k:=by
   have:=bp (eX (cN γ z));rw[tN] at this;simpa using this
  obtain ⟨g,cap,w',r1,r2,r3,r4,r5⟩:=run_append_lies (P:=P) w ty o.type 0 elem er.info z k er.info.bytes (by rw[hE.bg ty r hr,hu]) (kN w (hE.info elem er he)) hz qh rfl rp h0 (.slice none 0 0) 0 [] (World.ownsRow_nil w 0 elem k) ⟨b,off,none⟩ l.length m (l.flatMap enc) (by rw[eL hk]) (fun j u hj=>by rw[Addr.add_mid];exact nT j u hj) (fun u hu=>by
   obtain ⟨a,_,h2⟩:=List.mem_flatMap.1 hu;exact h1 a u h2) nV (by unfold maxLen;omega) (by rw[Nat.zero_add];exact Nat.le_trans (Nat.mul_le_mul hlen hb) (by decide)) (Nat.zero_le _) _ rfl
  have hg:g=w.heap.size:=by
   rcases r4 with h|h
   ·simp[Value.ownBlock] at h
   ·exact h
  have fg:∀b,S1 b->b<w.heap.size:=fun b hb=>R.lt LG hb;have jc:∀b,S1 b->w'.heap[b]?=w.heap[b]?:=fun b hb=>r3.block b (fg b hb) (by simp[Value.ownBlock]);have uX:(zP enc (.slice (some ⟨g,0,none⟩) l.length cap) l).at_ w' (fun b=>b=g):=by
   refine .inr ⟨⟨g,0,none⟩,cap,rfl,rfl,aN,fun j u hj=>?_,r5,fun b=>Iff.rfl⟩;rw[Nat.zero_add] at r2;have h3:Own enc k elem w' 0 (.slice (some ⟨g,0,none⟩) l.length cap) l:=by
    unfold Own;simpa using r2
   obtain ⟨A',c',e,_,_,h4⟩:=h3.sl;injection e with e1;subst e1;obtain ⟨b',KO,e,_,h5⟩:=h4 nV;simp only[Option.some.injEq,Addr.mk.injEq] at e;obtain ⟨rfl,rfl,_⟩:=e;exact h5 j u hj
  obtain ⟨u1,u2⟩:=AX w' (fun b=>S1 b\/b=g) (R' (.slice (some ⟨g,0,none⟩) l.length cap)) (hj _ _ _ _ (R.lP LG jc) uX (fun b x y=>by have:=fg b x;omega)) (fun b hb=>hb.imp id (fun h=>by omega)) ⟨r3.os,r3.tape,r3.output,r3.size,fun b hb _=>r3.block b hb (by simp[Value.ownBlock])⟩;have kV:=kk ⟨g,0,none⟩ cap;rw[ki] at kV;refine ⟨_,_,γ,.value (.slice (some ⟨g,0,none⟩) l.length cap),w',?_,.inl ⟨_,rfl,aM γ _⟩,kV,u1,?_,fun q hq=>cx q (by simpa using hq),u2⟩
  ·obtain ⟨dst,op,type,pos,after,guard⟩:=o;simp only[] at ho;subst ho;have r0:(Builtin.append_ #[ty,ty] type #[.slice A0 0 0,.slice (some ⟨b,off,none⟩) l.length m]).run P w=(Builtin.append_ #[ty,ty] type #[.slice none 0 0,.slice (some ⟨b,off,none⟩) l.length m]).run P w:=by
    cases A0 with
    | none=>rfl
    | some a0=>exact append_empty w ty type elem er.info (by rw[hE.bg ty r hr,hu]) (kN w (hE.info elem er he)) a0 _ l.length m nV (Nat.le_trans (Nat.mul_le_mul hlen hb) (by decide)) (by unfold maxLen;omega)
   rw[Nat.zero_add] at r1;rw[<-r0] at r1;simp only[execOp,resolve,invoke,builtin,Sem.run_bind,Sem.run_pure,Result.andThen_ok,List.map_toArray,List.map_cons,List.map_nil,q1,q2,r1]
  ·rw[wj hi];exact .refl γ _⟩
theorem eU.Kp{P:Program}{E:Env}{S:List Nat}{t:ax}{H:List af}{K:AV->List af->Prop}(hE:ch P E){α:Type}{enc:α->List Value}{k:Nat}{ty elem:TypeId}(hA:jE E ty elem k)(hk:∀a,(enc a).length=k)(h0:0<k)(h1:∀a,∀u∈enc a,u.oneCell'=true){c:Call}{s x:Operand}{A:Option Addr}{m:Nat}{l:List α}{i j:Nat}{R Rr:aH}{R':Value->aH}
  (hc:c={ callee:=.builtin .append,args:=#[s,x],argTypes:=#[ty,ty] }) (hs:aE t s=some (.lit (.slice none 0 0))) (hx:aE t x=some (.lit (.slice A l.length m))) (aN:l≠[]) (hi:H[i]?=some (.res R)) (Jj:H[j]?=some (.res Rr))
  (bq:∀w S,Rr.at_ w S->∃b off,A=some ⟨b,off,none⟩/\gZ w b off (l.flatMap enc)) (hj:∀v' w S1 S2,R.at_ w S1->(zP enc v' l).at_ w S2->(∀b,S1 b->S2 b->False)->(R' v').at_ w (fun b=>S1 b\/S2 b)) (hlen:l.length<=2147483648)
  (kk:∀A n,lS H i (.res (R' (.slice (some A) l.length n))) fun H'=>K (.lit (.slice (some A) l.length n)) H'):eU P S t H (.call c) K:=
 .FN hE hA hk h0 h1 hc hs (fun γ x h=>⟨none,by rwa [al] at h⟩) hx aN hi Jj bq hj hlen kk
theorem eU.V3{P:Program}{E:Env}{S:List Nat}{t:ax}{H:List af}{K:AV->List af->Prop}(hE:ch P E){α:Type}{enc:α->List Value}{k:Nat}{ty elem:TypeId}(hA:jE E ty elem k)(hk:∀a,(enc a).length=k)(h0:0<k)(h1:∀a,∀u∈enc a,u.oneCell'=true){c:Call}{s x:Operand}{A:Option Addr}{m:Nat}{l:List α}{i j:Nat}{R Rr:aH}{R':Value->aH}
  (hc:c={ callee:=.builtin .append,args:=#[s,x],argTypes:=#[ty,ty] }) {so:Nat} {sf:Nat} (hs:aE t s=some (.slice so sf 0 (.k 0))) (hx:aE t x=some (.lit (.slice A l.length m))) (aN:l≠[]) (hi:H[i]?=some (.res R)) (Jj:H[j]?=some (.res Rr))
  (bq:∀w S,Rr.at_ w S->∃b off,A=some ⟨b,off,none⟩/\gZ w b off (l.flatMap enc)) (hj:∀v' w S1 S2,R.at_ w S1->(zP enc v' l).at_ w S2->(∀b,S1 b->S2 b->False)->(R' v').at_ w (fun b=>S1 b\/S2 b)) (hlen:l.length<=2147483648)
  (kk:∀A n,lS H i (.res (R' (.slice (some A) l.length n))) fun H'=>K (.lit (.slice (some A) l.length n)) H'):eU P S t H (.call c) K:=
 .FN hE hA hk h0 h1 hc hs (fun γ x h=>let ⟨a,_,h1,_,_,h2⟩:=h;⟨some a,by rw[h1];exact congrArg _ h2⟩) hx aN hi Jj bq hj hlen kk
theorem ai.make{P:Program}{E:Env}{S:List Nat}{t:ax}{H:List af}{K:AV->List af->Prop}{m:Bool}{ty elem:TypeId}{r er:cZ}{z:Value}{lo c:Operand}{n:Nat}{q q':IntKind}(hr:E.ty ty=some r)(hu:r.bg=.slice elem)(he:E.ty elem=some er)(hz:er.info.zero=some z)(hl:aE t lo=some (.lit (.int q (n:Int))))(hc:aE t c=some (.lit (.int q' (n:Int))))(hn:n<=65536)(hb:Nat.ble er.info.bytes 65536=true)(iW:Nat.beq (ofValue z).cells.length er.info.size=true)(eO:Nat.blt H.length aU=true)
  (k:pg H (.cells (rep n (ofValue z).cells) elem) fun H'=>oc (qb H 0) fun p=>K (.slice p 0 n (.k n)) H'):ai E P m S t H (.makeSlice ty lo c) K:=by
 rw[kQ,iE,lf,Nat.zero_add] at k;refine .ev ⟨.new (.cells (rep n (ofValue z).cells) elem) (.slice n n),?_,gA eO,k⟩;have e1:lz (.lit (.int q (n:Int)))=some n:=rfl;have e2:lz (.lit (.int q' (n:Int)))=some n:=rfl;simp only[bz,hr,hl,hc,hu,e1,e2,he,hz];rw[show Nat.ble n n=true from Nat.ble_eq_true_of_le (Nat.le_refl _),show Nat.ble n 65536=true from Nat.ble_eq_true_of_le hn,hb,iW];rfl
theorem DA{α:Type}{enc:α->List Value}{y:α}{cs:List AV}(h:cs=(enc y).map .lit):∀n,rep n cs=((List.replicate n y).flatMap enc).map .lit
 | 0=>rfl
 | n+1=>by
   unfold rep;rw[List.replicate_succ,List.flatMap_cons,List.map_append,<-DA h n,h]
theorem eG.lay{α:Type}{P:Program}{E:Env}(hE:ch P E){R:aH}{ty:TypeId}{size:Nat}{enc:α->List Value}{l:List α}{oa:Option Addr}(hk:∀a,(enc a).length=size)(j7:∃r,E.ty ty=some r/\r.info.size=size/\bG r.bg=true)(h:l≠[]->∃b off,oa=some ⟨b,off,none⟩/\∀w S,R.at_ w S->gZ w b off (l.flatMap enc)):eG P R ty size oa (fun a=>.agg (enc a).toArray) l:=fun aN=>by
 obtain ⟨b,off,rfl,hl⟩:=h aN;refine ⟨_,rfl,fun w S hw q hq=>?_⟩;obtain ⟨r,hr,hs,lk⟩:=j7;rw[Addr.add_mid];refine run_loadVar_mid w b (off+q * size) ty (enc l[q]) r.bg (fun j u hj=>?_) (hE.bg ty r hr) (by unfold bG at lk;split at lk<;>simp_all) ?_
 ·have h1:=sI hk hq hj;have h2:=hl w S hw (q * size+j) u h1;rw[<-Nat.add_assoc] at h2;exact h2
 ·rw[kN w (hE.info ty r hr)];simp[hs,hk]
theorem dP.zero{E:Env}{P:Program}{m:Bool}{S:List Nat}{t:ax}{cl:Call}{ty elem size:Nat}{H:List af}{K:AV->List af->Prop}(hA:jE E ty elem size)(hl:Nat.ble H.length aU=true)(k:K (.lit (.slice none 0 0)) H):dP E P m S t cl ty (.lit (.slice none 0 0)) (.lit (.slice none 0 0)) H K:=by
 obtain ⟨r,hr,hu⟩:=hA.ty;obtain ⟨er,z,he,_,_,_,_⟩:=hA.el;refine ⟨.inl ⟨.lit (.slice none 0 0),hp H,H,?_,AO (Nat.le_of_ble_eq_true hl),ji _,.refl _,k⟩⟩;simp only[mw,hr,hu,he,ir];try rfl
theorem bc.merge{L:List aH}{i j:Nat}{R R2 R':aH}(hi:L[i]?=some R)(hj:L[j]?=some R2)(o8:Nat.beq i j=false)(h:∀w S1 S2,R.at_ w S1->R2.at_ w S2->(∀b,S1 b->S2 b->False)->R'.at_ w (fun b=>S1 b\/S2 b)):bc L ((L.set j aA).set i R'):=fun w T hT=>by
 have o8:=Nat.ne_of_beq_eq_false o8;obtain ⟨S1,S2,h1,h2,h3,h4⟩:=db hT hj;have j4:(L.set j aA)[i]?=some R:=by rw[List.getElem?_set,if_neg (Ne.symm o8)];exact hi
 obtain ⟨A,B,a1,a2,a3,a4⟩:=db h2 j4;have e:=jo (i:=i) (r:=R') a2 (cM j4) (h w A S1 a1 h1 (fun b x y=>h3 b y ((a4 b).2 (.inl x)))) (fun b x y=>by
  rcases x with x|x
  ·exact a3 b x y
  ·exact h3 b x ((a4 b).2 (.inr y)))
 refine ⟨_,fun b hb=>?_,e⟩;rcases hb with (hb|hb)|hb
 ·exact (h4 b).2 (.inr ((a4 b).2 (.inl hb)))
 ·exact (h4 b).2 (.inl hb)
 ·exact (h4 b).2 (.inr ((a4 b).2 (.inr hb)))
theorem LZ{E:Env}{kt:TypeId}(h:∃r,E.ty kt=some r/\r.bg=.string):oI E kt (fun l:List UInt8=>Value.string ⟨l.toArray⟩):=by
 obtain ⟨r,hr,hu⟩:=h;refine ⟨.string,rfl,fun a=>by simp only[lu,hr,hu,ofValue],fun a b=>?_⟩;simp only[ofValue,iO,Option.some.injEq];by_cases h:a=b
 ·subst h;rw[decide_eq_true rfl];show (a.toArray==a.toArray)=true
  simp
 ·rw[decide_eq_false h];show (a.toArray==b.toArray)=false
  simp[h]
theorem eP.of{E:Env}{P:Program}{fn:Func}{args:List AV}{H:List af}{K:AV->List af->Prop}{c:Code}(h1:fn.body=some c)(h2:(Nat.ble args.length fn.ntmps&&Nat.ble fn.ntmps 65536)=true)(h:aF E P fn.ntmps H.length c (setArgs 0 args .e) H (Gm E fn K)):eP E P fn args H K:=by
 unfold eP;rw[h1];simp only[];rw[h2];exact h
theorem aF.au{E:Env}{P:Program}{n k:Nat}{a b:Code}{t:ax}{H:List af}{Q:fp->ax->List af->Prop}(h:∀F,F=aF E P n k b->aF E P n k a t H (fun e t H=>match e with
  | .normal=>F t H Q
  | .exit id=>Q (.exit id) t H
  | .goto l=>Q (.goto l) t H
  | .ret=>Q .ret t H)):aF E P n k (.seq a b) t H Q:=h _ rfl
end Go.Proofs.YtmbdghclhpboaaaGreat.Ev
namespace Go.Proofs.YtmbdghclhpboaaaGreat
open Go.RowKit
def cj(b:UInt8):List Value:=[.int .u8 (b.toNat:Int)]
theorem gO(b:UInt8):(cj b).length=1:=rfl
theorem Eh:zN cj 1:=⟨gO,fun a u hu=>by
 simp only[cj,List.mem_cons,List.not_mem_nil,or_false] at hu;subst hu;rfl⟩
theorem vK:Kj Tryz.prog 31 5 1 1:=⟨Tryz.underlying31,by
 have h:(Tryz.prog.info? 5).map (fun i=>(i.zero,i.size,i.bytes))=some (some (.int .u8 0),1,1):=by kernel_rfl
 obtain ⟨i,hi,h1,h2,h3⟩:=info_parts h;exact ⟨i,_,hi,h1,h2,h3,rfl⟩,by omega⟩
theorem gZ.by{w:World}{b off:Nat}{x:UInt8}(h:gZ w b off (cj x)):w.cell? ⟨b,off,none⟩=some (.int .u8 (x.toNat:Int)):=h 0 _ rfl
def nM(l:List UInt8):Nat:=l.foldl (fun n x=>256 * n+x.toNat) 0
theorem rG(l:List UInt8)(x:UInt8):nM (l++[x])=256 * nM l+x.toNat:=by unfold nM;rw[List.foldl_append];rfl
theorem CR:∀(k:Nat) (l:List UInt8),l.length=k->nM l<256 ^ k
 | 0,l,h=>by
   have:l=[]:=List.eq_nil_of_length_eq_zero h;subst this;decide
 | k+1,l,h=>by
   have aN:l≠[]:=by intro e;subst e;simp at h
   obtain ⟨l',x,rfl⟩:∃l' x,l=l'++[x]:=⟨l.dropLast,l.getLast aN,(List.dropLast_concat_getLast aN).symm⟩;have hl:l'.length=k:=by simpa using h
   have ih:=CR k l' hl;rw[rG];have hx:x.toNat<256:=x.toNat_lt;rw[Nat.pow_succ];omega
def bZ:Nat->Nat->List UInt8
 | 0,_=>[]
 | k+1,n=>bZ k (n / 256)++[UInt8.ofNat (n % 256)]
theorem bF:∀(k n:Nat),(bZ k n).length=k
 | 0,_=>rfl
 | k+1,n=>by simp[bZ,bF k]
theorem rH:∀(k n:Nat),n<256 ^ k->nM (bZ k n)=n
 | 0,n,h=>by
   have h0:n=0:=by simpa using h
   subst h0;rfl
 | k+1,n,h=>by
   have h1:n / 256<256 ^ k:=by rw[Nat.pow_succ] at h;omega
   rw[bZ,rG,rH k _ h1];have:(UInt8.ofNat (n % 256)).toNat=n % 256:=by simp
   rw[this];omega
theorem D0:∀(k n j:Nat),j<k->(bZ k n)[j]?=some (UInt8.ofNat (n / 256 ^ (k - 1 - j) % 256))
 | 0,_,_,h=>by omega
 | k+1,n,j,h=>by
   rw[bZ];by_cases hj:j<k
   ·rw[List.getElem?_append_left (by rw[bF];exact hj),D0 k _ j hj];congr 3;rw[Nat.div_div_eq_div_mul];congr 1;rw[show k+1 - 1 - j=(k - 1 - j)+1 by omega,Nat.pow_succ,Nat.mul_comm]
   ·obtain rfl:j=k:=by omega
    rw[List.getElem?_append_right (by rw[bF];exact Nat.le_refl _),bF];simp
theorem OL(a:Nat)(x:Nat)(hx:x<256):(256 * a) ||| x=256 * a+x:=
 (Nat.two_pow_add_eq_or_of_lt (i:=8) (b:=x) hx a).symm
theorem Rk(m x:Nat)(hm:m<72057594037927936)(hx:x<256):bits .or .u64 ((m:Int) * 256) (x:Int)=((256 * m+x:Nat):Int):=by
 have h:=u64_or_nat (256 * m) x (by omega) (by omega);rw[OL m x hx] at h;rw[<-h];congr 1;omega
theorem X9(l:List UInt8)(s:Value)(w:World)(B:Nat)(hs:Sl cj w B s l)(hl:l.length<=8)(h0:0<l.length) :
  Calls Tryz.prog 271 #[s] w fun e w'=>e=.returned (.tuple #[.int .u64 (nM l:Nat),.int .i64 0])/\w'=w:=by
 obtain ⟨A,ca,rfl,h1,h2,h3⟩:=hs;unfold maxLen at h2;go_enter Tryz.func271,Tryz.ntmps271;go_wp2;go_loop [4,17] (fun nv i=>∃k:Nat,k<=l.length/\i=.int .i64 k/\nv=.int .u64 (nM (l.take k):Nat)) (fun _ i=>(l.length - RowKit.intOf i).toNat);case atStart=>exact ⟨0,Nat.zero_le _,rfl,rfl⟩
 case round=>
  obtain ⟨k,hk,rfl,rfl⟩:=hrel;by_cases ah:k<l.length
  ·obtain ⟨b,off,rfl,_,nT⟩:=h3 (by omega);have x0:=(nT.elem gO k ah).by
   rw[Nat.mul_one] at x0;have hb:=CR k (l.take k) (by simp;omega);have lK:nM (l.take k)<256 ^ 7:=Nat.lt_of_lt_of_le hb (Nat.pow_le_pow_right (by omega) (by omega));have ll:nM (l.take k)<72057594037927936:=by simpa using lK
   have hs:=Lib.hid (rG (l.take k) l[k]);have ht:=Lib.hid (List.take_succ_eq_append_getElem ah);have hx:l[k].toNat<256:=l[k].toNat_lt;obtain ⟨m,hm⟩:∃m,m=nM (l.take k):=⟨_,rfl⟩;obtain ⟨x,Vd⟩:∃x,x=l[k].toNat:=⟨_,rfl⟩;rw[<-hm,<-Vd] at hs;rw[<-hm] at ll ⊢;rw[<-Vd] at x0 hx;have HM:=Lib.hid hm;clear hb lK nT h3 hm Vd;go_wp2;go_round;case rel=>exact ⟨k+1,by omega,by go_num,by rw[ht.out,hs.out,Rk m x ll hx]⟩
   case measure=>simp[RowKit.intOf];omega
  ·obtain rfl:k=l.length:=by omega
   rw[List.take_length];go_wp2;go_ret2;exact ⟨rfl,rfl⟩
theorem FV:∀(l:List UInt8) (j:Nat),(l.flatMap cj)[j]?=l[j]?.map fun b=>Value.int .u8 (b.toNat:Int)
 | [],j=>by simp
 | a::l,0=>by simp[cj]
 | a::l,j+1=>by
   have:=FV l j;simpa [cj] using this
theorem yX(k:Nat):(2:Int) ^ (8 * k)=((256 ^ k:Nat):Int):=by
 rw[Int.pow_mul];norm_cast
def M6(w:World)(l:List UInt8)(e:Ending)(w':World):Prop:=∃v,e=.returned (.tuple #[v,.int .i64 0])/\Own cj 1 5 w' w.heap.size v l/\Below w.heap.size w w'
theorem nu(n k:Nat)(w:World)(h1:1<=k)(h2:k<=8)(hn:n<18446744073709551616)(hk:n<256 ^ k) :
  Calls Tryz.prog 165 #[.int .u64 n,.int .i64 k] w (M6 w (bZ k n)):=by
 have hz:(n:Int) / 2 ^ (8 * k)=0:=by
  rw[yX,<-Int.natCast_ediv,Nat.div_eq_of_lt hk];rfl
 have HN:=Lib.hid hn;have HK:=Lib.hid hk;have YI:=Lib.hid ((Below.refl w.heap.size w).alloc (Nat.le_refl _) (.cells #[.int .u8 0,.int .u8 0,.int .u8 0,.int .u8 0,.int .u8 0,.int .u8 0,.int .u8 0,.int .u8 0] 379));have vY:=Lib.hid (mu.new w 379 #[.int .u8 0,.int .u8 0,.int .u8 0,.int .u8 0,.int .u8 0,.int .u8 0,.int .u8 0,.int .u8 0]);obtain ⟨i0,z0,hi,XE,iW,EE,rp⟩:=vK.inf;have HI:=Lib.hid (And.intro hi (And.intro XE (And.intro iW (And.intro EE rp))));clear hn hk hi XE iW EE rp;by_cases h8:k<8;all_goals
  go_enter Tryz.func165,Tryz.ntmps165
  go_wp2
  go_loopw [7,26] (fun _ iv wr=>∃i cs,i<=k/\iv=.int .i64 (i:Nat)/\mu wr w.heap.size 379 cs/\cs.size=8/\(∀j,j<8->∃u,cs[j]?=some (.int .u8 u))/\(∀j,k - i<=j->j<k->cs[j]?=some (.int .u8 ((n / 256 ^ (k - 1 - j) % 256:Nat):Int)))/\Below w.heap.size w wr) (fun _ iv _=>(k - RowKit.intOf iv).toNat)
  case atStart=>exact ⟨0,_,Nat.zero_le _,rfl,vY.out,rfl,fun j hj=>by (match j,hj with|0,_=>exact ⟨_,rfl⟩|1,_=>exact ⟨_,rfl⟩|2,_=>exact ⟨_,rfl⟩|3,_=>exact ⟨_,rfl⟩|4,_=>exact ⟨_,rfl⟩|5,_=>exact ⟨_,rfl⟩|6,_=>exact ⟨_,rfl⟩|7,_=>exact ⟨_,rfl⟩),fun j hj wb=>by omega,YI.out⟩
  case round=>
   obtain ⟨i,cs,Z3,rfl,AG,NT,KC,oE,pz⟩:=hrel;by_cases ah:i<k
   ·obtain ⟨j0,Ji⟩:∃j0,j0+i+1=k:=⟨k - i - 1,by omega⟩;have Y5:(k:Int) - 1 - (i:Int)=(j0:Int):=by omega
    obtain ⟨u0,XC⟩:=KC j0 (by omega);have c0:=AG.is j0 XC;have f0:=AG.frozen j0;have W8:j0<8:=by omega
    have HB:=Lib.hid AG;have HC:=Lib.hid oE;have HA:=Lib.hid KC;have HJ:=Lib.hid Ji;have HX:=Lib.hid Y5;have HS:=Lib.hid NT;clear AG oE KC Ji NT XC;go_wp2;go_roundw;case rel=>
     have hj:=HJ.out;have hv:(n:Int) / 2 ^ (8 * i) % 256=((n / 256 ^ (k - 1 - j0) % 256:Nat):Int):=by
      rw[yX,show k - 1 - j0=i by omega];norm_cast
     refine ⟨i+1,_,by omega,by go_num,HB.out.put j0 _,by rw[Array.size_setIfInBounds];exact HS.out,fun j W9=>?_,fun j h3 h4=>?_,pz.setCell (Nat.le_refl _) _⟩
     ·rw[Array.getElem?_setIfInBounds];split
      ·exact ⟨_,by rw[if_pos (by rw[HS.out];exact W8)]⟩
      ·exact HA.out j W9
     ·rw[Array.getElem?_setIfInBounds];by_cases e:j0=j
      ·subst e;rw[if_pos rfl,if_pos (by rw[HS.out];exact W8),hv]
      ·rw[if_neg e];exact HC.out j (by omega) h4
    case measure=>simp[RowKit.intOf];omega
   ·obtain rfl:i=k:=by omega
    have nT:∀j u,((bZ i n).flatMap cj)[j]?=some u->wr.cell? ((⟨w.heap.size,0,none⟩:Addr).add j)=some u:=fun j u hu=>by
     have AD:(⟨w.heap.size,0,none⟩:Addr).add j=⟨w.heap.size,j,none⟩:=by unfold Addr.add;split<;>simp_all
     rw[FV] at hu;have Jk:j<i:=by
      rcases Nat.lt_or_ge j i with h|h
      ·exact h
      ·rw[List.getElem?_eq_none (by rw[bF];exact h)] at hu;cases hu
     rw[D0 i n j Jk,Option.map_some,Option.some.injEq] at hu;rw[AD,AG.cell,oE j (by omega) Jk,<-hu];simp
    have HL:=Lib.hid nT;have Ha:=AG.lt;clear nT AG KC oE NT;go_wp2_with (at_builtin;refine wpList_append_own _ rfl (.const (.slice none 0 0)) (.tmp 41) 31 rfl w.heap.size 5 i0 z0 1 1 Tryz.underlying31 HI.out.1 HI.out.2.1 HI.out.2.2.1 HI.out.2.2.2.1 HI.out.2.2.2.2 (by omega) _ 0 [] rfl (World.ownsRow_nil wr w.heap.size 5 1) ⟨w.heap.size,0,none⟩ i 8 ((bZ i n).flatMap cj) rfl (by rw[qf gO,bF]) HL.out (Eh.flat _) (by unfold maxLen;omega) (by omega) (by omega) ?_;intro v' w1 lO Jg _);go_ret2;refine ⟨v',rfl,?_,pz.grown Jg (by omega) (fun b hb=>by cases hb)⟩;unfold Own;rw[bF];simpa using lO
def VZ(w:World)(k n:Nat)(e:Ending)(w':World):Prop:=∃v,e=.returned (.tuple #[v,.bool (decide (n<256 ^ k))])/\Own cj 1 5 w' w.heap.size v (bZ k n)/\Below w.heap.size w w'
theorem Ia:∀(k n:Nat) (w:World),k+1<=8->n<18446744073709551616 ->
  Calls Tryz.prog 101 #[.int .u64 n,.int .i64 ((k:Int)+1)] w (VZ w (k+1) n)
 | 0,n,w,h2,hn=>by
   have HN:=Lib.hid hn;have hb:=mu.new w 5 #[.int .u8 ((n:Int) % 256)];have HB:=Lib.hid hb;clear hn hb;rw[show (((0:Nat):Int)+1)=1 from rfl];go_enter Tryz.func101,Tryz.ntmps101;go_wp2;go_ret2;refine ⟨.slice (some ⟨w.heap.size,0,none⟩) 1 1,?_,Own.Rh (l:=bZ 1 n) HB.out (Nat.le_refl _) ?_ gO (by rw[bF];unfold maxLen;omega),(Below.refl _ _).alloc (Nat.le_refl _) _⟩
   ·have:decide (n<256 ^ (0+1))=decide ((n:Int)<256):=by
     apply decide_eq_decide.2;simp;omega
    rw[this];rfl
   ·simp[bZ,cj]
 | k+1,n,w,h2,hn=>by
   have ih:=Ia k (n / 256) w (by omega) (by omega);have HI:=Lib.hid ih;have hk:(k:Int)<=6:=by omega
   have gT:0<=(k:Int):=by omega
   have HN:=Lib.hid hn;have hlen:=Lib.hid (bF (k+1) (n / 256));have hd:IntKind.u64.wrap ((n:Int) / 256)=((n / 256:Nat):Int):=by rw[IntKind.wrap_u64];omega
   have HD:=Lib.hid hd;clear hn ih hd;rw[show (((k+1:Nat):Int)+1)=(k:Int)+1+1 by omega];go_enter Tryz.func101,Tryz.ntmps101;go_wp2_with fail;rw[HD.out];refine HI.out.mono ?_;rintro e w1 ⟨v,rfl,lO,pz⟩;have HO:=Lib.hid (lO.alloc (.cells #[.int .u8 ((n:Int) % 256)] 5));have hb:=Lib.hid (mu.new w1 5 #[.int .u8 ((n:Int) % 256)]);have iW:=pz.size;have nT:Hid (gZ (w1.alloc (.cells #[.int .u8 ((n:Int) % 256)] 5)) w1.heap.size 0 (cj (UInt8.ofNat (n % 256)))):=by
    have:=hb.out.lay;have e:cj (UInt8.ofNat (n % 256))=[.int .u8 ((n:Int) % 256)]:=by simp[cj]
    unfold Hid;rw[e];exact this
   clear lO;go_wp2_with (at_builtin;refine Nh vK Eh rfl (.tmp 30) (.tmp 34) rfl rfl HO.out (UInt8.ofNat (n % 256)) w1.heap.size 1 rfl nT.out (by rw[hlen.out];unfold maxLen;omega) (by rw[hlen.out];omega) (by simp;omega) ?_;intro g' cap w2 UP Jg dj ZM);go_ret2;refine ⟨_,?_,UP,(pz.alloc pz.size _).grown Jg (by simp;omega) (fun b hb=>(HO.out.lt b hb).1)⟩;have:decide (n<256 ^ (k+1+1))=decide (n / 256<256 ^ (k+1)):=by
    apply decide_eq_decide.2;rw[Nat.pow_succ 256 (k+1)];omega
   rw[this];rfl
@[go_sem high] theorem YE(w:World)(A:Option Addr)(n c j:Nat)(k:IntKind)(hj:j<=n):(Instr.slice 31 (.slice A n c) (some (.int k (j:Int))) none none).run Tryz.prog w=.ok (.slice (Ag A c j 1) (n - j) (c - j)) w:=
 uw Tryz.underlying31 Tryz.sizeOf5 w A n c j k hj
@[go_sem high] theorem Zx(w:World)(A:Option Addr)(n c j:Nat)(k:IntKind)(hj:j<=c):(Instr.slice 31 (.slice A n c) none (some (.int k (j:Int))) none).run Tryz.prog w=.ok (.slice A j c) w:=
 CE Tryz.underlying31 Tryz.sizeOf5 w A n c j k hj
end Go.Proofs.YtmbdghclhpboaaaGreat
namespace Go.Proofs.YtmbdghclhpboaaaGreat
open Go.RowKit Go.Lib
@[simp,go_sem high] theorem pR(t:List UInt8):(ByteArray.mk t.toArray).size=t.length:=by show t.toArray.size=_;simp
theorem Fp(t:List UInt8):strCells ⟨t.toArray⟩=t.flatMap cj:=by
 unfold strCells;induction t with
 | nil=>rfl
 | cons a t ih=>simp_all [cj]
end Go.Proofs.YtmbdghclhpboaaaGreat
namespace Go.Proofs.YtmbdghclhpboaaaGreat.Ev
open Go.RowKit
def ep{α:Type}(v:Value)(l:List α):Prop:=(v=.slice none 0 0/\l=[])\/∃A n,v=.slice (some A) l.length n
theorem Own.ZE{α:Type}{enc:α->List Value}{k:Nat}{e:TypeId}{w:World}{base:Nat}{v:Value}{l:List α}(h:Own enc k e w base v l):ep v l:=by
 rcases h.2 with ⟨rfl,h0⟩|⟨g,cap,cur,rfl,_⟩
 ·exact .inl ⟨rfl,List.eq_nil_of_length_eq_zero h0⟩
 ·exact .inr ⟨_,_,rfl⟩
section
variable{P:Program}{E:Env}{S:List Nat}{t:ax}{H:List af}{K:AV->List af->Prop}
theorem eU.Sx{α:Type}{enc:α->List Value}{k:Nat}{elem:TypeId}{c:Call}{s x:Operand}{v xv:Value}{l l':List α}{i:Nat}{R R1:aH}{R':Value->aH}{ty tx:TypeId}
  (hc:c={ callee:=.builtin .append,args:=#[s,x],argTypes:=#[ty,tx] }) (hs:aE t s=some (.lit v)) (hx:aE t x=some (.lit xv)) (hi:H[i]?=some (.res R))
  (lM:∀w S,R.at_ w S->bw [aB enc k elem v l,R1] w S) (tK:∀v' w S,bw [aB enc k elem v' l',R1] w S->(R' v').at_ w S)
  (cW:∀(F:di) (γ:aK) (w:World) (tt:TypeId),Rs F γ H w->Own enc k elem w 0 v l->∃v' w',(Builtin.append_ #[ty,tx] tt #[v,xv]).run P w=.ok v' w'/\Own enc k elem w' 0 v' l'/\w.grownBy w' v.ownBlock/\∀b,v'.ownBlock=some b->v.ownBlock=some b\/w.heap.size<=b)
  (kk:∀v',ep v' l'->lS H i (.res (R' v')) fun H'=>K (.lit v') H'):eU P S t H (.call c) K:=
 ⟨fun F γ w ρ hR cx cJ bD o ho=>by
  subst hc;have q1:=bD s _ (by simp[Op.operands,Call.operands]) hs;have q2:=bD x _ (by simp[Op.operands,Call.operands]) hx;rw[al] at q1 q2;obtain ⟨S1,LG,AX⟩:=x9 hR cJ hi;obtain ⟨A,B,Ez,⟨B1,B2,LB,NJ,Uk,hB⟩,NI,fg⟩:=lM w S1 LG;have lO:Own enc k elem w 0 v l:=Ez.1;obtain ⟨v',w',r1,r2,r3,r4⟩:=cW F γ w o.type cJ lO;have qY:∀b,B b->b<w.heap.size/\some b≠v.ownBlock:=fun b hb=>by
   refine ⟨?_,fun e=>NI b ((Ez.2 b).2 e.symm) hb⟩;rcases (hB b).1 hb with h|h
   ·exact R1.lt LB h
   ·exact absurd h (NJ b)
  have NV:∀b,v'.ownBlock=some b->B b->False:=fun b e hb=>by
   have h5:=qY b hb;rcases r4 b e with h6|h6
   ·exact h5.2 h6.symm
   ·omega
  have mX:∀b,(v'.ownBlock=some b\/B b)->S1 b\/w.heap.size<=b:=fun b hb=>by
   rcases hb with h|hb
   ·rcases r4 b h with h6|h6
    ·exact .inl ((fg b).2 (.inl ((Ez.2 b).2 h6)))
    ·exact .inr h6
   ·exact .inl ((fg b).2 (.inr hb))
  have lq:bw [aB enc k elem v' l',R1] w' (fun b=>v'.ownBlock=some b\/B b):=
   ⟨fun b=>v'.ownBlock=some b,B,⟨r2,fun b=>Iff.rfl⟩,⟨B1,B2,R1.lP LB fun b hb=>r3.block b (qY b ((hB b).2 (.inl hb))).1 (qY b ((hB b).2 (.inl hb))).2,NJ,Uk,hB⟩,NV,fun b=>Iff.rfl⟩
  obtain ⟨u1,u2⟩:=AX w' (fun b=>v'.ownBlock=some b\/B b) (R' v') (tK _ _ _ lq) mX ⟨r3.os,r3.tape,r3.output,r3.size,fun b hb hn=>r3.block b hb fun e=>hn ((fg b).2 (.inl ((Ez.2 b).2 e.symm)))⟩;have kV:=kk v' (Own.ZE r2);rw[ki] at kV;refine ⟨_,_,γ,.value v',w',?_,.inl ⟨_,rfl,aM γ _⟩,kV,u1,?_,fun q hq=>cx q (by simpa using hq),u2⟩
  ·obtain ⟨dst,op,type,pos,after,guard⟩:=o;simp only[] at ho;subst ho;simp only[execOp,resolve,invoke,builtin,Sem.run_bind,Sem.run_pure,Result.andThen_ok,List.map_toArray,List.map_cons,List.map_nil,q1,q2,r1]
  ·rw[wj hi];exact .refl γ _⟩
theorem eU.Tm(hE:ch P E){α:Type}{enc:α->List Value}{k:Nat}{ty elem:TypeId}(hA:jE E ty elem k)(hk:∀a,(enc a).length=k)(h0:0<k)(h1:∀a,∀u∈enc a,u.oneCell'=true){c:Call}{s x:Operand}{v:Value}{l l2:List α}{A:Option Addr}{m:Nat}{i j:Nat}{R R1 Rr:aH}{R':Value->aH}
  (hc:c={ callee:=.builtin .append,args:=#[s,x],argTypes:=#[ty,ty] }) (hs:aE t s=some (.lit v)) (hx:aE t x=some (.lit (.slice A l2.length m))) (aN:l2≠[]) (hi:H[i]?=some (.res R)) (Jj:H[j]?=some (.res Rr))
  (bq:∀w S,Rr.at_ w S->∃b off,A=some ⟨b,off,none⟩/\gZ w b off (l2.flatMap enc))
  (lM:∀w S,R.at_ w S->bw [aB enc k elem v l,R1] w S) (tK:∀v' w S,bw [aB enc k elem v' (l++l2),R1] w S->(R' v').at_ w S) (hlen:l.length+l2.length<=2147483648)
  (kk:∀v',ep v' (l++l2)->lS H i (.res (R' v')) fun H'=>K (.lit v') H'):eU P S t H (.call c) K:=by
 refine eU.Sx hc hs hx hi lM tK (fun F γ w tt cJ lO=>?_) kk;obtain ⟨r,hr,hu⟩:=hA.ty;obtain ⟨er,z,he,qh,hz,tN,hb⟩:=hA.el;obtain ⟨T0,r6,_⟩:=cJ.out;obtain ⟨Sr,_,Ur,_⟩:=db (i:=j) (r:=Rr) r6 (by unfold cC;rw[List.getElem?_map,Jj];rfl);obtain ⟨b,off,rfl,nT⟩:=bq w Sr Ur;have nV:0<l2.length:=List.length_pos_iff.2 aN;have rp:z.cells.size=k:=by
  have:=bp (eX (cN γ z));rw[tN] at this;simpa using this
 obtain ⟨g,cap,w',r1,r2,r3,r4,r5⟩:=run_append_lies (P:=P) w ty tt 0 elem er.info z k er.info.bytes (by rw[hE.bg ty r hr,hu]) (kN w (hE.info elem er he)) hz qh rfl rp h0 v l.length _ lO ⟨b,off,none⟩ l2.length m (l2.flatMap enc) (by rw[eL hk]) (fun j u hj=>by rw[Addr.add_mid];exact nT j u hj) (fun u hu=>by
   obtain ⟨a,_,h2⟩:=List.mem_flatMap.1 hu;exact h1 a u h2) nV (by unfold maxLen;omega) (Nat.le_trans (Nat.mul_le_mul hlen hb) (by decide)) (Nat.zero_le _) _ rfl
 refine ⟨_,w',r1,?_,r3,fun b hb=>?_⟩
 ·unfold Own;rw[List.length_append,List.flatMap_append];exact r2
 ·simp only[Value.ownBlock,Option.some.injEq] at hb;subst hb;rcases r4 with h|h
  ·exact .inl h
  ·exact .inr (by omega)
end
end Go.Proofs.YtmbdghclhpboaaaGreat.Ev
