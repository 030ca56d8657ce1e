/- Part of the proof: SyL Num Codec Long SyM. Conditions: as each states. -/
import Derived.Test.YtmbdghclhpboaaaGreatPq16
import Derived.Test.YtmbdghclhpboaaaGreatRows
import Derived.WalkSpells
import Derived.WalkLawsBesides
import Derived.BigQuiet
import Derived.Lib.Hide
import Derived.Deep.RegionLaw
set_option linter.all false
set_option maxRecDepth 100000
set_option maxHeartbeats 8000000
namespace Go.Proofs.YtmbdghclhpboaaaGreat.Ev
open Go.RowKit
def pN(base:Nat)(w0:World):aC:=
 ⟨fun w S=>(∀b,S b↔base<=b/\b<w0.heap.size)/\∀b,base<=b->b<w0.heap.size->w.heap[b]?=w0.heap[b]?,fun {w S b} h hb=>by
  obtain ⟨h1,h2⟩:=(h.1 b).1 hb;have:=h.2 b h1 h2;rw[Array.getElem?_eq_getElem h2] at this;exact (Array.getElem?_eq_some_iff.1 this).1,fun {w w' S} h hk=>⟨h.1,fun b h1 h2=>(hk b ((h.1 b).2 ⟨h1,h2⟩)).trans (h.2 b h1 h2)⟩⟩
theorem pN.cell{base:Nat}{w0 w:World}{S:Nat->Prop}(h:(pN base w0).at_ w S){a:Addr}{v:Value}(hb:base<=a.block)(hc:w0.cell? a=some v):w.cell? a=some v:=by
 have an:a.block<w0.heap.size:=by
  rcases Nat.lt_or_ge a.block w0.heap.size with h1|h1
  ·exact h1
  ·unfold World.cell? at hc;simp[Array.getElem?_eq_none h1] at hc
 have e:=h.2 a.block hb an;unfold World.cell? at hc ⊢;rw[e];exact hc
theorem TI{w:World}{b off:Nat}{cs:List Value}(h:ir w b off cs)(aP:cs≠[]):b<w.heap.size:=by
 cases cs with
 | nil=>exact absurd rfl aP
 | cons v cs=>
   have:=h 0 v rfl;rcases Nat.lt_or_ge b w.heap.size with h1|h1
   ·exact h1
   ·unfold World.cell? at this;simp[Array.getElem?_eq_none h1] at this
theorem Hg{F:dN}{γ:aT}{H:List ai}{w:World}{R:aC}{S T:Nat->Prop}(hR:aU F γ (hp H) w)(hl:H.length<aY)(hT:bD (cz H) w T)(mK:∀b,T b->¬F.fz b/\∀o p,γ o=some (some p)->p.block≠b)(hS:R.at_ w S)(sg:∀b,S b->¬T b/\¬F.fz b/\∀o p,γ o=some (some p)->p.block≠b) :
  aU F (gh γ H.length none) (hp (H++[.res R])) w/\Rs F (gh γ H.length none) (H++[.res R]) w/\Step γ (hp H) (gh γ H.length none) (hp (H++[.res R])):=by
 have g1:∀i,i≠H.length->(gh γ H.length none) i=γ i:=fun i h=>ck _ _ h;have g2:(gh γ H.length none) H.length=some none:=bI ..;have g3:γ H.length=none:=hR.j6 _ (Nat.le_refl _);have gs:∀i p,(gh γ H.length none) i=some (some p)->γ i=some (some p)/\i<H.length:=fun i p h=>by
  by_cases e:i=H.length
  ·rw[e,g2] at h;cases h
  ·rw[g1 i e] at h;exact ⟨h,hR.ji (by rw[h];simp)⟩
 have mn:Ext γ (gh γ H.length none):=fun i p h=>by
  by_cases e:i=H.length
  ·rw[e,g3] at h;cases h
  ·rw[g1 i e];exact .inl h
 have hJ:(H++[ai.res R]).length<=aY:=by simp;omega
 have dz:∀i,i<H.length->(hp (H++[ai.res R])).heap.get i=(hp H).heap.get i:=fun i hi=>by rw[aZ hJ,aZ (Nat.le_of_lt hl),List.getElem?_append_left hi]
 refine ⟨⟨⟨fun i hi=>?_,fun i p h=>?_,fun i h=>?_,fun i j p q h1 h2 e=>hR.inj i j p q (gs i p h1).1 (gs j q h2).1 e,hJ⟩,fun i p h=>?_,hR.frame.less fun i p h=>⟨i,p,(gs i p h).1,rfl⟩⟩,?_,⟨mn,fun i hi h=>by rw[g1 i (by have:i<H.length:=hi;omega)];exact h,by show H.length<=(H++[_]).length;simp,fun i hi _=>dz i hi⟩⟩
 ·have hi:(H++[ai.res R]).length<=i:=hi;simp at hi;rw[g1 i (by omega)];exact hR.j6 i (by show H.length<=i;omega)
 ·obtain ⟨h1,h2⟩:=gs i p h;obtain ⟨ob,h3,h4⟩:=hR.obj i p h1;exact ⟨ob,by rw[dz i h2];exact h3,h4.mono mn rfl⟩
 ·by_cases e:i=H.length
  ·rw[e,aZ hJ];simp[vw]
  ·rw[g1 i e] at h;have:=hR.ji (o:=i) (by rw[h];simp);rw[dz i this];exact hR.gone i h
 ·obtain ⟨h1,h2⟩:=gs i p h;rw[dz i h2];exact hR.live i p h1
 ·refine ⟨fun b=>T b\/S b,?_,fun b hb=>?_⟩
  ·unfold cz;rw[List.map_append];exact dK.2 ⟨T,S,hT,⟨S,fun _=>False,hS,fun _ h=>h,fun _ _ h=>h,fun b=>by simp⟩,fun b x y=>(sg b y).1 x,fun b=>Iff.rfl⟩
  ·rcases hb with hb|hb
   ·exact ⟨(mK b hb).1,fun o p h=>(mK b hb).2 o p (gs o p h).1⟩
   ·exact ⟨(sg b hb).2.1,fun o p h=>(sg b hb).2.2 o p (gs o p h).1⟩
theorem aj.I5{P:Program}{E:Env}(hE:cL P E){f:Nat}{fn:Func}(hf:E.fn f=some fn){args:List AV}{xs:List Value}{H:List ai}{K:AV->List ai->Prop}{ι:Type}(val:ι->AV)(Q:ι->Nat->World->Prop)(ha:AV.kF args=some xs)(fy:Nat.blt H.length aY=true)
  (c:∀w:World,Calls P f xs.toArray w (fun e w'=>∃i x,e=.returned x/\(val i).flat=some x/\Q i w.heap.size w'/\Below w.heap.size w w')) (k:∀i base w',base<=w'.heap.size->Q i base w'->K (val i) (H++[.res (pN base w')])):aj P [] f args H K:=⟨fun F γ w ys hR cE cK qp=>by
 have e:=jJ args xs ys.toList ha qp;obtain rfl:ys=xs.toArray:=by rw[<-e]
 obtain ⟨T,hT,mK⟩:=cK.out;refine ⟨(hE.fn f fn hf).2 _ w,fun R fx=>(c w).mono ?_⟩;rintro r w' ⟨i,x,rfl,hx,hQ,hb⟩;have lj:=hR.grown hb;have gz:=iV hT (fun b h=>hb.block b (jq hT h));obtain ⟨h1,h2,h3⟩:=Hg (R:=pN w.heap.size w') (S:=fun b=>w.heap.size<=b/\b<w'.heap.size) lj (gZ fy) gz mK ⟨fun b=>Iff.rfl,fun _ _ _=>rfl⟩ (fun b pQ=>⟨fun h=>by have:=jq hT h;omega,fun h=>by have:=hR.frame.gE b h;have:=hR.frame.size;omega,fun o p hp e=>by have:=hR.lt hp;omega⟩);refine fx _ _ _ x w' (k i w.heap.size w' hb.size hQ) (jF _ x hx) ⟨h1,h3,fun q hq _=>?_,h2⟩;simp at hq;by_cases e:q=H.length
 ·rw[e,bI];simp
 ·rw[ck _ _ e];exact cE q (by omega) (by simp)⟩
def iP(a:Addr)(cs:List Value):aC:=
 ⟨fun w S=>(∀j u,cs[j]?=some u->w.cell? ⟨a.block,a.off+j,none⟩=some u)/\a.block<w.heap.size/\∀b,S b↔b=a.block,fun h hb=>by rw[(h.2.2 _).1 hb];exact h.2.1,fun {w w' S} h hk=>by
  have e:=hk a.block ((h.2.2 _).2 rfl);refine ⟨fun j u hj=>?_,?_,h.2.2⟩
  ·have:=h.1 j u hj;unfold World.cell? at this ⊢;simp only[] at this ⊢;rw[e];exact this
  ·have h2:=h.2.1;rw[Array.getElem?_eq_getElem h2] at e;exact (Array.getElem?_eq_some_iff.1 e).1⟩
theorem vE{F:dN}{γ:aT}{H:List ai}{w:World}{o:Nat}{p:Place}{xs:List Value}{e:TypeId}(hR:aU F γ (hp H) w)(cK:Rs F γ H w)(bX:γ o=some (some p))(ho:H[o]?=some (.row xs e)\/H[o]?=some (.cells (xs.map .lit) e)) :
  aU F (gh γ o none) (hp (H.set o (.res (iP ⟨p.block,p.base,none⟩ xs)))) w/\Rs F (gh γ o none) (H.set o (.res (iP ⟨p.block,p.base,none⟩ xs))) w/\Step γ (hp H) (gh γ o none) (hp (H.set o (.res (iP ⟨p.block,p.base,none⟩ xs)))):=by
 have si:o<H.length:=by rcases ho with h|h<;>exact de h
 have fy:H.length<=aY:=hR.aY;have g1:∀i,i≠o->(gh γ o none) i=γ i:=fun i h=>ck _ _ h;have g2:(gh γ o none) o=some none:=bI ..;have gs:∀i q,(gh γ o none) i=some (some q)->γ i=some (some q)/\i≠o:=fun i q h=>by
  by_cases e:i=o
  ·rw[e,g2] at h;cases h
  ·rw[g1 i e] at h;exact ⟨h,e⟩
 have mn:Ext γ (gh γ o none):=fun i q h=>by
  by_cases e:i=o
  ·rw[e];exact .inr g2
  ·rw[g1 i e];exact .inl h
 have hJ:(H.set o (.res (iP ⟨p.block,p.base,none⟩ xs))).length<=aY:=by rw[List.length_set];exact fy
 have dz:∀i,i≠o->(hp (H.set o (.res (iP ⟨p.block,p.base,none⟩ xs)))).heap.get i=(hp H).heap.get i:=fun i hi=>by rw[aZ hJ,aZ fy,List.getElem?_set,if_neg (Ne.symm hi)]
 have kg:(hp (H.set o (.res (iP ⟨p.block,p.base,none⟩ xs)))).heap.get o=some .dead:=by rw[aZ hJ,List.getElem?_set,if_pos rfl,if_pos si];rfl
 have BP:∀j u,xs[j]?=some u->w.cell? ⟨p.block,p.base+j,none⟩=some u:=by
  obtain ⟨ob,h1,h2⟩:=hR.obj o p bX;rw[aZ fy] at h1;intro j u hj;rcases ho with ho|ho
  ·rw[ho] at h1;cases h1
   obtain ⟨c,k1,_,_,k4⟩:=h2;obtain ⟨y,k5,k6⟩:=k4 j (.lit u) (by simp[hj]);rw[au] at k6;rw[cell_of_row w p.block (p.base+j) c e (0,0) k1,k5,k6]
  ·rw[ho] at h1;cases h1
   obtain ⟨c,k1,_,_,k4⟩:=h2;obtain ⟨y,k5,k6⟩:=k4 j (.lit u) (by simp[hj]);rw[au] at k6;rw[cell_of_row w p.block (p.base+j) c e (0,0) k1,k5,k6]
 refine ⟨⟨⟨fun i hi=>?_,fun i q h=>?_,fun i h=>?_,fun i j q q' h1 h2 e=>hR.inj i j q q' (gs i q h1).1 (gs j q' h2).1 e,hJ⟩,fun i q h=>?_,hR.frame.less fun i q h=>⟨i,q,(gs i q h).1,rfl⟩⟩,?_,⟨mn,fun i hi h=>by rw[g1 i (fun e=>by rw[e,bX] at h;cases h)];exact h,by show H.length<=(H.set o _).length;simp,fun i hi h=>dz i (fun e=>by rw[e,bX] at h;cases h)⟩⟩
 ·have hi:(H.set o (ai.res (iP ⟨p.block,p.base,none⟩ xs))).length<=i:=hi;rw[List.length_set] at hi;rw[g1 i (by omega)];exact hR.j6 i hi
 ·obtain ⟨h1,h2⟩:=gs i q h;obtain ⟨ob,h3,h4⟩:=hR.obj i q h1;exact ⟨ob,by rw[dz i h2];exact h3,h4.mono mn rfl⟩
 ·by_cases e:i=o
  ·rw[e];exact kg
  ·rw[g1 i e] at h;rw[dz i e];exact hR.gone i h
 ·obtain ⟨h1,h2⟩:=gs i q h;rw[dz i h2];exact hR.live i q h1
 ·obtain ⟨T,hT,mK⟩:=cK.out;have vC:(cz H)[o]?=some aB:=by
   unfold cz;rw[List.getElem?_map];rcases ho with h|h<;>rw[h]<;>rfl
  have e1:cz (H.set o (.res (iP ⟨p.block,p.base,none⟩ xs)))=(cz H).set o (iP ⟨p.block,p.base,none⟩ xs):=by unfold cz;rw[List.map_set];rfl
  have e2:(cz H).set o aB=cz H:=by
   apply List.ext_getElem?;intro j;rw[List.getElem?_set];split
   ·rename_i e;subst e;rw[vC,if_pos (de vC)]
   ·rfl
  refine ⟨fun b=>b=p.block\/T b,?_,fun b hb=>?_⟩
  ·rw[e1];exact jV (S1:=fun b=>b=p.block) (by rw[e2];exact hT) (de vC) ⟨BP,hR.lt bX,fun b=>Iff.rfl⟩ (fun b x y=>(mK b y).2 o p bX x.symm)
  ·rcases hb with rfl|hb
   ·exact ⟨hR.frame.own o p bX,fun i q h e=>by
     obtain ⟨h1,h2⟩:=gs i q h;exact h2 (hR.inj _ _ _ _ h1 bX e)⟩
   ·exact ⟨(mK b hb).1,fun i q h=>(mK b hb).2 i q (gs i q h).1⟩
theorem aj.VI{P:Program}{f:Nat}{args:List AV}{H:List ai}{K' K:AV->List ai->Prop}(c:aj P [] f args H K')
  (hk:∀v H',K' v H'->K v H'\/∃(o n:Nat) (cap:pe) (xs:List Value) (e:TypeId),v=.slice o 0 n cap/\0<n/\(H'[o]?=some (.row xs e)\/H'[o]?=some (.cells (xs.map .lit) e))/\∀b off m,K (.lit (.slice (some ⟨b,off,none⟩) n m)) (H'.set o (.res (iP ⟨b,off,none⟩ xs)))):aj P [] f args H K:=⟨fun F γ w ys hR cE cK qp=>by
 obtain ⟨c1,c2⟩:=c.out F γ w ys hR cE cK qp;refine ⟨c1,fun R fx=>c2 R fun v H' ay x w' k1 k2 k3=>?_⟩;rcases hk v H' k1 with h|⟨o,n,cap,xs,e,rfl,hn,ho,h⟩
 ·exact fx v H' ay x w' h k2 k3
 ·simp only[aw] at k2;obtain ⟨a,m,rfl,dO,NT,_⟩:=k2;have dO:=dO.resolve_left (by omega);have si:o<H'.length:=by rcases ho with h|h<;>exact de h
  have DA:ay o≠none:=k3.pl o si (by simp);have aP:∃p,ay o=some (some p):=by
   cases hg:ay o with
   | none=>exact absurd hg DA
   | some q=>
     cases q with
     | some p=>exact ⟨p,rfl⟩
     | none=>
       have h1:=k3.rel.gone o hg;rw[aZ k3.rel.aY] at h1;rcases ho with h|h<;>rw[h] at h1<;>cases h1
  obtain ⟨p,bX⟩:=aP;unfold gY at dO;rw[bX] at dO;simp only[Nat.add_zero] at dO;subst dO;obtain ⟨h1,h2,h3⟩:=vE k3.rel k3.rs bX ho;refine fx _ _ _ _ w' (h _ _ m) (aS _ _) ⟨h1,k3.step.trans h3,fun q hq _=>?_,h2⟩;by_cases e:q=o
  ·rw[e,bI];simp
  ·rw[ck _ _ e];exact k3.pl q (by simpa using hq) (by simp)⟩
def AR{α:Type}(enc:α->List Value)(v:Value)(l:List α):aC:=
 ⟨fun w S=>(l=[]/\v=.slice none 0 0/\∀b,¬S b)\/∃a m,v=.slice (some a) l.length m/\a.spot=none/\l≠[]/\(iP a (l.flatMap enc)).at_ w S,fun h hb=>by
  rcases h with ⟨_,_,h⟩|⟨a,m,_,_,_,h⟩
  ·exact absurd hb (h _)
  ·exact (iP _ _).lt h hb,fun h hk=>by
  rcases h with h|⟨a,m,h1,h2,h3,h⟩
  ·exact .inl h
  ·exact .inr ⟨a,m,h1,h2,h3,(iP _ _).mu h hk⟩⟩
theorem AR.sl{α:Type}{enc:α->List Value}{v:Value}{l:List α}{w:World}{S:Nat->Prop}(h:(AR enc v l).at_ w S):∃oa m,v=.slice oa l.length m/\(l≠[]->∃b off,oa=some ⟨b,off,none⟩/\ir w b off (l.flatMap enc)):=by
 rcases h with ⟨rfl,rfl,_⟩|⟨a,m,rfl,ha,aP,h⟩
 ·exact ⟨none,0,rfl,fun h=>absurd rfl h⟩
 ·refine ⟨some a,m,rfl,fun _=>⟨a.block,a.off,?_,fun j u hj=>h.1 j u hj⟩⟩;rw[<-ha]
theorem eH.Hj{P:Program}{E:Env}{S:List Nat}{t:aE}{H:List ai}{K:AV->List ai->Prop}(hE:cL P E){α:Type}{enc:α->List Value}{k:Nat}{ty elem:TypeId}(hA:iO E ty elem k)(hk:∀a,(enc a).length=k)(h0:0<k)(h1:∀a,∀u∈enc a,u.oneCell'=true){c:Call}{s x:Operand}{A:Option Addr}{m:Nat}{l:List α}{i j:Nat}{R Rr:aC}{R':Value->aC}
  (hc:c={ callee:=.builtin .append,args:=#[s,x],argTypes:=#[ty,ty] }) {sv:AV} (hs:aL t s=some sv) (XF:∀γ x,aw γ sv x->∃A0,x=.slice A0 0 0) (hx:aL t x=some (.lit (.slice A l.length m))) (aP:l≠[]) (hi:H[i]?=some (.res R)) (KG:H[j]?=some (.res Rr))
  (bu:∀w S,Rr.at_ w S->∃b off,A=some ⟨b,off,none⟩/\ir w b off (l.flatMap enc)) (hj:∀v' w S1 S2,R.at_ w S1->(AR enc v' l).at_ w S2->(∀b,S1 b->S2 b->False)->(R' v').at_ w (fun b=>S1 b\/S2 b)) (hlen:l.length<=2147483648)
  (kk:∀A n,mz H i (.res (R' (.slice (some A) l.length n))) fun H'=>K (.lit (.slice (some A) l.length n)) H'):eH P S t H (.call c) K:=
 ⟨fun F γ w ρ hR cE cK bJ o ho=>by
  subst hc;obtain ⟨r,hr,hu⟩:=hA.ty;obtain ⟨er,z,he,pg,hz,uS,hb⟩:=hA.el;have q1:=bJ s _ (by simp[Op.operands,Call.operands]) hs;have q2:=bJ x _ (by simp[Op.operands,Call.operands]) hx;rw[au] at q2;obtain ⟨A0,q1⟩:=XF γ _ q1;obtain ⟨S1,NG,B5⟩:=y8 hR cK hi;obtain ⟨T0,sX,_⟩:=cK.out;obtain ⟨Sr,_,W8,_⟩:=db (i:=j) (r:=Rr) sX (by unfold cz;rw[List.getElem?_map,KG];rfl);obtain ⟨b,off,rfl,mo⟩:=bu w Sr W8;have nC:0<l.length:=List.length_pos_iff.2 aP;have sk:z.cells.size=k:=by
   have:=bB (fH (dg γ z));rw[uS] at this;simpa using this
  obtain ⟨g,cap,w',r1,r2,r3,r4,r5⟩:=run_append_lies (P:=P) w ty o.type 0 elem er.info z k er.info.bytes (by rw[hE.bp ty r hr,hu]) (mO w (hE.info elem er he)) hz pg rfl sk h0 (.slice none 0 0) 0 [] (World.ownsRow_nil w 0 elem k) ⟨b,off,none⟩ l.length m (l.flatMap enc) (by rw[eC hk]) (fun j u hj=>by rw[Addr.add_mid];exact mo j u hj) (fun u hu=>by
   obtain ⟨a,_,h2⟩:=List.mem_flatMap.1 hu;exact h1 a u h2) nC (by unfold maxLen;omega) (by rw[Nat.zero_add];exact Nat.le_trans (Nat.mul_le_mul hlen hb) (by decide)) (Nat.zero_le _) _ rfl
  have hg:g=w.heap.size:=by
   rcases r4 with h|h
   ·simp[Value.ownBlock] at h
   ·exact h
  have fM:∀b,S1 b->b<w.heap.size:=fun b hb=>R.lt NG hb;have jM:∀b,S1 b->w'.heap[b]?=w.heap[b]?:=fun b hb=>r3.block b (fM b hb) (by simp[Value.ownBlock]);have vC:(AR enc (.slice (some ⟨g,0,none⟩) l.length cap) l).at_ w' (fun b=>b=g):=by
   refine .inr ⟨⟨g,0,none⟩,cap,rfl,rfl,aP,fun j u hj=>?_,r5,fun b=>Iff.rfl⟩;rw[Nat.zero_add] at r2;have h3:Own enc k elem w' 0 (.slice (some ⟨g,0,none⟩) l.length cap) l:=by
    unfold Own;simpa using r2
   obtain ⟨A',c',e,_,_,h4⟩:=h3.sl;injection e with e1;subst e1;obtain ⟨b',I6,e,_,h5⟩:=h4 nC;simp only[Option.some.injEq,Addr.mk.injEq] at e;obtain ⟨rfl,rfl,_⟩:=e;exact h5 j u hj
  obtain ⟨u1,u2⟩:=B5 w' (fun b=>S1 b\/b=g) (R' (.slice (some ⟨g,0,none⟩) l.length cap)) (hj _ _ _ _ (R.mu NG jM) vC (fun b x y=>by have:=fM b x;omega)) (fun b hb=>hb.imp id (fun h=>by omega)) ⟨r3.os,r3.tape,r3.output,r3.size,fun b hb _=>r3.block b hb (by simp[Value.ownBlock])⟩;have dS:=kk ⟨g,0,none⟩ cap;rw[k9] at dS;refine ⟨_,_,γ,.value (.slice (some ⟨g,0,none⟩) l.length cap),w',?_,.inl ⟨_,rfl,aS γ _⟩,dS,u1,?_,fun q hq=>cE q (by simpa using hq),u2⟩
  ·obtain ⟨dst,op,type,pos,after,guard⟩:=o;simp only[] at ho;subst ho;have r0:(Builtin.append_ #[ty,ty] type #[.slice A0 0 0,.slice (some ⟨b,off,none⟩) l.length m]).run P w=(Builtin.append_ #[ty,ty] type #[.slice none 0 0,.slice (some ⟨b,off,none⟩) l.length m]).run P w:=by
    cases A0 with
    | none=>rfl
    | some a0=>exact append_empty w ty type elem er.info (by rw[hE.bp ty r hr,hu]) (mO w (hE.info elem er he)) a0 _ l.length m nC (Nat.le_trans (Nat.mul_le_mul hlen hb) (by decide)) (by unfold maxLen;omega)
   rw[Nat.zero_add] at r1;rw[<-r0] at r1;simp only[execOp,resolve,invoke,builtin,Sem.run_bind,Sem.run_pure,Result.andThen_ok,List.map_toArray,List.map_cons,List.map_nil,q1,q2,r1]
  ·rw[xb hi];exact .refl γ _⟩
theorem eH.LV{P:Program}{E:Env}{S:List Nat}{t:aE}{H:List ai}{K:AV->List ai->Prop}(hE:cL P E){α:Type}{enc:α->List Value}{k:Nat}{ty elem:TypeId}(hA:iO E ty elem k)(hk:∀a,(enc a).length=k)(h0:0<k)(h1:∀a,∀u∈enc a,u.oneCell'=true){c:Call}{s x:Operand}{A:Option Addr}{m:Nat}{l:List α}{i j:Nat}{R Rr:aC}{R':Value->aC}
  (hc:c={ callee:=.builtin .append,args:=#[s,x],argTypes:=#[ty,ty] }) (hs:aL t s=some (.lit (.slice none 0 0))) (hx:aL t x=some (.lit (.slice A l.length m))) (aP:l≠[]) (hi:H[i]?=some (.res R)) (KG:H[j]?=some (.res Rr))
  (bu:∀w S,Rr.at_ w S->∃b off,A=some ⟨b,off,none⟩/\ir w b off (l.flatMap enc)) (hj:∀v' w S1 S2,R.at_ w S1->(AR enc v' l).at_ w S2->(∀b,S1 b->S2 b->False)->(R' v').at_ w (fun b=>S1 b\/S2 b)) (hlen:l.length<=2147483648)
  (kk:∀A n,mz H i (.res (R' (.slice (some A) l.length n))) fun H'=>K (.lit (.slice (some A) l.length n)) H'):eH P S t H (.call c) K:=
 .Hj hE hA hk h0 h1 hc hs (fun γ x h=>⟨none,by rwa [au] at h⟩) hx aP hi KG bu hj hlen kk
theorem eH.YN{P:Program}{E:Env}{S:List Nat}{t:aE}{H:List ai}{K:AV->List ai->Prop}(hE:cL P E){α:Type}{enc:α->List Value}{k:Nat}{ty elem:TypeId}(hA:iO E ty elem k)(hk:∀a,(enc a).length=k)(h0:0<k)(h1:∀a,∀u∈enc a,u.oneCell'=true){c:Call}{s x:Operand}{A:Option Addr}{m:Nat}{l:List α}{i j:Nat}{R Rr:aC}{R':Value->aC}
  (hc:c={ callee:=.builtin .append,args:=#[s,x],argTypes:=#[ty,ty] }) {so:Nat} {sf:Nat} (hs:aL t s=some (.slice so sf 0 (.k 0))) (hx:aL t x=some (.lit (.slice A l.length m))) (aP:l≠[]) (hi:H[i]?=some (.res R)) (KG:H[j]?=some (.res Rr))
  (bu:∀w S,Rr.at_ w S->∃b off,A=some ⟨b,off,none⟩/\ir w b off (l.flatMap enc)) (hj:∀v' w S1 S2,R.at_ w S1->(AR enc v' l).at_ w S2->(∀b,S1 b->S2 b->False)->(R' v').at_ w (fun b=>S1 b\/S2 b)) (hlen:l.length<=2147483648)
  (kk:∀A n,mz H i (.res (R' (.slice (some A) l.length n))) fun H'=>K (.lit (.slice (some A) l.length n)) H'):eH P S t H (.call c) K:=
 .Hj hE hA hk h0 h1 hc hs (fun γ x h=>let ⟨a,_,h1,_,_,h2⟩:=h;⟨some a,by rw[h1];exact congrArg _ h2⟩) hx aP hi KG bu hj hlen kk
theorem al.make{P:Program}{E:Env}{S:List Nat}{t:aE}{H:List ai}{K:AV->List ai->Prop}{m:Bool}{ty elem:TypeId}{r er:dd}{z:Value}{lo c:Operand}{n:Nat}{q q':IntKind}(hr:E.ty ty=some r)(hu:r.bp=.slice elem)(he:E.ty elem=some er)(hz:er.info.zero=some z)(hl:aL t lo=some (.lit (.int q (n:Int))))(hc:aL t c=some (.lit (.int q' (n:Int))))(hn:n<=65536)(hb:Nat.ble er.info.bytes 65536=true)(jD:Nat.beq (ofValue z).cells.length er.info.size=true)(fy:Nat.blt H.length aY=true)
  (k:p6 H (.cells (rep n (ofValue z).cells) elem) fun H'=>oX (qT H 0) fun p=>K (.slice p 0 n (.k n)) H'):al E P m S t H (.makeSlice ty lo c) K:=by
 rw[lF,jh,lQ,Nat.zero_add] at k;refine .ev ⟨.new (.cells (rep n (ofValue z).cells) elem) (.slice n n),?_,gZ fy,k⟩;have e1:l5 (.lit (.int q (n:Int)))=some n:=rfl;have e2:l5 (.lit (.int q' (n:Int)))=some n:=rfl;simp only[bK,hr,hl,hc,hu,e1,e2,he,hz];rw[show Nat.ble n n=true from Nat.ble_eq_true_of_le (Nat.le_refl _),show Nat.ble n 65536=true from Nat.ble_eq_true_of_le hn,hb,jD];rfl
theorem EE{α:Type}{enc:α->List Value}{y:α}{cs:List AV}(h:cs=(enc y).map .lit):∀n,rep n cs=((List.replicate n y).flatMap enc).map .lit
 | 0=>rfl
 | n+1=>by
   unfold rep;rw[List.replicate_succ,List.flatMap_cons,List.map_append,<-EE h n,h]
theorem cU.lay{α:Type}{P:Program}{E:Env}(hE:cL P E){R:aC}{ty:TypeId}{size:Nat}{enc:α->List Value}{l:List α}{oa:Option Addr}(hk:∀a,(enc a).length=size)(kW:∃r,E.ty ty=some r/\r.info.size=size/\bQ r.bp=true)(h:l≠[]->∃b off,oa=some ⟨b,off,none⟩/\∀w S,R.at_ w S->ir w b off (l.flatMap enc)):cU P R ty size oa (fun a=>.agg (enc a).toArray) l:=fun aP=>by
 obtain ⟨b,off,rfl,hl⟩:=h aP;refine ⟨_,rfl,fun w S hw q hq=>?_⟩;obtain ⟨r,hr,hs,nA⟩:=kW;rw[Addr.add_mid];refine run_loadVar_mid w b (off+q * size) ty (enc l[q]) r.bp (fun j u hj=>?_) (hE.bp ty r hr) (by unfold bQ at nA;split at nA<;>simp_all) ?_
 ·have h1:=xK hk hq hj;have h2:=hl w S hw (q * size+j) u h1;rw[<-Nat.add_assoc] at h2;exact h2
 ·rw[mO w (hE.info ty r hr)];simp[hs,hk]
theorem dx.zero{E:Env}{P:Program}{m:Bool}{S:List Nat}{t:aE}{cl:Call}{ty elem size:Nat}{H:List ai}{K:AV->List ai->Prop}(hA:iO E ty elem size)(hl:Nat.ble H.length aY=true)(k:K (.lit (.slice none 0 0)) H):dx E P m S t cl ty (.lit (.slice none 0 0)) (.lit (.slice none 0 0)) H K:=by
 obtain ⟨r,hr,hu⟩:=hA.ty;obtain ⟨er,z,he,_,_,_,_⟩:=hA.el;refine ⟨.inl ⟨.lit (.slice none 0 0),hp H,H,?_,BW (nB1 hl),jS _,.refl _,k⟩⟩;simp only[nw,hr,hu,he,iZ];try rfl
theorem bj.merge{L:List aC}{i j:Nat}{R R2 R':aC}(hi:L[i]?=some R)(hj:L[j]?=some R2)(pS:Nat.beq i j=false)(h:∀w S1 S2,R.at_ w S1->R2.at_ w S2->(∀b,S1 b->S2 b->False)->R'.at_ w (fun b=>S1 b\/S2 b)):bj L ((L.set j aB).set i R'):=fun w T hT=>by
 have pS:=Nat.ne_of_beq_eq_false pS;obtain ⟨S1,S2,h1,h2,h3,h4⟩:=db hT hj;have kU:(L.set j aB)[i]?=some R:=by rw[List.getElem?_set,if_neg (Ne.symm pS)];exact hi
 obtain ⟨A,B,a1,a2,a3,a4⟩:=db h2 kU;have e:=jV (i:=i) (r:=R') a2 (de kU) (h w A S1 a1 h1 (fun b x y=>h3 b y ((a4 b).2 (.inl x)))) (fun b x y=>by
  rcases x with x|x
  ·exact a3 b x y
  ·exact h3 b x ((a4 b).2 (.inr y)))
 refine ⟨_,fun b hb=>?_,e⟩;rcases hb with (hb|hb)|hb
 ·exact (h4 b).2 (.inr ((a4 b).2 (.inl hb)))
 ·exact (h4 b).2 (.inl hb)
 ·exact (h4 b).2 (.inr ((a4 b).2 (.inr hb)))
theorem NZ{E:Env}{kt:TypeId}(h:∃r,E.ty kt=some r/\r.bp=.string):po E kt (fun l:List UInt8=>Value.string ⟨l.toArray⟩):=by
 obtain ⟨r,hr,hu⟩:=h;refine ⟨.string,rfl,fun a=>by simp only[lX,hr,hu,ofValue],fun a b=>?_⟩;simp only[ofValue,js,Option.some.injEq];by_cases h:a=b
 ·subst h;rw[decide_eq_true rfl];show (a.toArray==a.toArray)=true
  simp
 ·rw[decide_eq_false h];show (a.toArray==b.toArray)=false
  simp[h]
theorem eX.of{E:Env}{P:Program}{fn:Func}{args:List AV}{H:List ai}{K:AV->List ai->Prop}{c:Code}(h1:fn.body=some c)(h2:(Nat.ble args.length fn.ntmps&&Nat.ble fn.ntmps 65536)=true)(h:aI E P fn.ntmps H.length c (setArgs 0 args .e) H (Ia E fn K)):eX E P fn args H K:=by
 unfold eX;rw[h1];simp only[];rw[h2];exact h
theorem aI.az{E:Env}{P:Program}{n k:Nat}{a b:Code}{t:aE}{H:List ai}{Q:fR->aE->List ai->Prop}(h:∀F,F=aI E P n k b->aI E P n k a t H (fun e t H=>match e with
  | .normal=>F t H Q
  | .exit id=>Q (.exit id) t H
  | .goto l=>Q (.goto l) t H
  | .ret=>Q .ret t H)):aI E P n k (.seq a b) t H Q:=h _ rfl
end Go.Proofs.YtmbdghclhpboaaaGreat.Ev
namespace Go.Proofs.YtmbdghclhpboaaaGreat
open Go.RowKit
def cB(b:UInt8):List Value:=[.int .u8 (b.toNat:Int)]
theorem fE(b:UInt8):(cB b).length=1:=rfl
theorem Ft:AO cB 1:=⟨fE,fun a u hu=>by
 simp only[cB,List.mem_cons,List.not_mem_nil,or_false] at hu;subst hu;rfl⟩
theorem wK:LP Tryz.prog 31 5 1 1:=⟨Tryz.underlying31,by
 have h:(Tryz.prog.info? 5).map (fun i=>(i.zero,i.size,i.bytes))=some (some (.int .u8 0),1,1):=by kernel_rfl
 obtain ⟨i,hi,h1,h2,h3⟩:=info_parts h;exact ⟨i,_,hi,h1,h2,h3,rfl⟩,by omega⟩
theorem ir.by{w:World}{b off:Nat}{x:UInt8}(h:ir w b off (cB x)):w.cell? ⟨b,off,none⟩=some (.int .u8 (x.toNat:Int)):=h 0 _ rfl
def jE(l:List UInt8):Nat:=l.foldl (fun n x=>256 * n+x.toNat) 0
theorem sE(l:List UInt8)(x:UInt8):jE (l++[x])=256 * jE l+x.toNat:=by unfold jE;rw[List.foldl_append];rfl
theorem yg:∀(k:Nat) (l:List UInt8),l.length=k->jE l<256 ^ k
 | 0,l,h=>by
   have:l=[]:=List.eq_nil_of_length_eq_zero h;subst this;decide
 | k+1,l,h=>by
   have aP:l≠[]:=by intro e;subst e;simp at h
   obtain ⟨l',x,rfl⟩:∃l' x,l=l'++[x]:=⟨l.dropLast,l.getLast aP,(List.dropLast_concat_getLast aP).symm⟩;have hl:l'.length=k:=by simpa using h
   have ih:=yg k l' hl;rw[sE];have hx:x.toNat<256:=x.toNat_lt;rw[Nat.pow_succ];omega
def cG:Nat->Nat->List UInt8
 | 0,_=>[]
 | k+1,n=>cG k (n / 256)++[UInt8.ofNat (n % 256)]
theorem bR:∀(k n:Nat),(cG k n).length=k
 | 0,_=>rfl
 | k+1,n=>by simp[cG,bR k]
theorem sF:∀(k n:Nat),n<256 ^ k->jE (cG k n)=n
 | 0,n,h=>by
   have h0:n=0:=by simpa using h
   subst h0;rfl
 | k+1,n,h=>by
   have h1:n / 256<256 ^ k:=by rw[Nat.pow_succ] at h;omega
   rw[cG,sE,sF k _ h1];have:(UInt8.ofNat (n % 256)).toNat=n % 256:=by simp
   rw[this];omega
theorem E7:∀(k n j:Nat),j<k->(cG k n)[j]?=some (UInt8.ofNat (n / 256 ^ (k - 1 - j) % 256))
 | 0,_,_,h=>by omega
 | k+1,n,j,h=>by
   rw[cG];by_cases hj:j<k
   ·rw[List.getElem?_append_left (by rw[bR];exact hj),E7 k _ j hj];congr 3;rw[Nat.div_div_eq_div_mul];congr 1;rw[show k+1 - 1 - j=(k - 1 - j)+1 by omega,Nat.pow_succ,Nat.mul_comm]
   ·obtain rfl:j=k:=by omega
    rw[List.getElem?_append_right (by rw[bR];exact Nat.le_refl _),bR];simp
theorem QY(a:Nat)(x:Nat)(hx:x<256):(256 * a) ||| x=256 * a+x:=
 (Nat.two_pow_add_eq_or_of_lt (i:=8) (b:=x) hx a).symm
theorem TR(m x:Nat)(hm:m<72057594037927936)(hx:x<256):bits .or .u64 ((m:Int) * 256) (x:Int)=((256 * m+x:Nat):Int):=by
 have h:=u64_or_nat (256 * m) x (by omega) (by omega);rw[QY m x hx] at h;rw[<-h];congr 1;omega
theorem S7(l:List UInt8)(s:Value)(w:World)(B:Nat)(hs:Sl cB w B s l)(hl:l.length<=8)(h0:0<l.length) :
  Calls Tryz.prog 271 #[s] w fun e w'=>e=.returned (.tuple #[.int .u64 (jE l:Nat),.int .i64 0])/\w'=w:=by
 obtain ⟨A,ca,rfl,h1,h2,h3⟩:=hs;unfold maxLen at h2;go_enter Tryz.func271,Tryz.ntmps271;go_wp2;go_loop [4,17] (fun nv i=>∃k:Nat,k<=l.length/\i=.int .i64 k/\nv=.int .u64 (jE (l.take k):Nat)) (fun _ i=>(l.length - RowKit.intOf i).toNat);case atStart=>exact ⟨0,Nat.zero_le _,rfl,rfl⟩
 case round=>
  obtain ⟨k,hk,rfl,rfl⟩:=hrel;by_cases an:k<l.length
  ·obtain ⟨b,off,rfl,_,mo⟩:=h3 (by omega);have x0:=(mo.elem fE k an).by
   rw[Nat.mul_one] at x0;have hb:=yg k (l.take k) (by simp;omega);have lJ:jE (l.take k)<256 ^ 7:=Nat.lt_of_lt_of_le hb (Nat.pow_le_pow_right (by omega) (by omega));have lU:jE (l.take k)<72057594037927936:=by simpa using lJ
   have hs:=Lib.hid (sE (l.take k) l[k]);have ht:=Lib.hid (List.take_succ_eq_append_getElem an);have hx:l[k].toNat<256:=l[k].toNat_lt;obtain ⟨m,hm⟩:∃m,m=jE (l.take k):=⟨_,rfl⟩;obtain ⟨x,XQ⟩:∃x,x=l[k].toNat:=⟨_,rfl⟩;rw[<-hm,<-XQ] at hs;rw[<-hm] at lU ⊢;rw[<-XQ] at x0 hx;have HM:=Lib.hid hm;clear hb lJ mo h3 hm XQ;go_wp2;go_round;case rel=>exact ⟨k+1,by omega,by go_num,by rw[ht.out,hs.out,TR m x lU hx]⟩
   case measure=>simp[RowKit.intOf];omega
  ·obtain rfl:k=l.length:=by omega
   rw[List.take_length];go_wp2;go_ret2;exact ⟨rfl,rfl⟩
theorem Be:∀(l:List UInt8) (j:Nat),(l.flatMap cB)[j]?=l[j]?.map fun b=>Value.int .u8 (b.toNat:Int)
 | [],j=>by simp
 | a::l,0=>by simp[cB]
 | a::l,j+1=>by
   have:=Be l j;simpa [cB] using this
theorem zU(k:Nat):(2:Int) ^ (8 * k)=((256 ^ k:Nat):Int):=by
 rw[Int.pow_mul];norm_cast
def OY(w:World)(l:List UInt8)(e:Ending)(w':World):Prop:=∃v,e=.returned (.tuple #[v,.int .i64 0])/\Own cB 1 5 w' w.heap.size v l/\Below w.heap.size w w'
theorem oq(n k:Nat)(w:World)(h1:1<=k)(h2:k<=8)(hn:n<18446744073709551616)(hk:n<256 ^ k) :
  Calls Tryz.prog 165 #[.int .u64 n,.int .i64 k] w (OY w (cG k n)):=by
 have hz:(n:Int) / 2 ^ (8 * k)=0:=by
  rw[zU,<-Int.natCast_ediv,Nat.div_eq_of_lt hk];rfl
 have HN:=Lib.hid hn;have HK:=Lib.hid hk;have hB0:=Lib.hid ((Below.refl w.heap.size w).alloc (Nat.le_refl _) (.cells #[.int .u8 0,.int .u8 0,.int .u8 0,.int .u8 0,.int .u8 0,.int .u8 0,.int .u8 0,.int .u8 0] 379));have wY:=Lib.hid (nu.new w 379 #[.int .u8 0,.int .u8 0,.int .u8 0,.int .u8 0,.int .u8 0,.int .u8 0,.int .u8 0,.int .u8 0]);obtain ⟨i0,z0,hi,hz0,jD,sY,sk⟩:=wK.inf;have HI:=Lib.hid (And.intro hi (And.intro hz0 (And.intro jD (And.intro sY sk))));clear hn hk hi hz0 jD sY sk;by_cases h8:k<8;all_goals
  go_enter Tryz.func165,Tryz.ntmps165
  go_wp2
  go_loopw [7,26] (fun _ iv wr=>∃i cs,i<=k/\iv=.int .i64 (i:Nat)/\nu wr w.heap.size 379 cs/\cs.size=8/\(∀j,j<8->∃u,cs[j]?=some (.int .u8 u))/\(∀j,k - i<=j->j<k->cs[j]?=some (.int .u8 ((n / 256 ^ (k - 1 - j) % 256:Nat):Int)))/\Below w.heap.size w wr) (fun _ iv _=>(k - RowKit.intOf iv).toNat)
  case atStart=>exact ⟨0,_,Nat.zero_le _,rfl,wY.out,rfl,fun j hj=>by (match j,hj with|0,_=>exact ⟨_,rfl⟩|1,_=>exact ⟨_,rfl⟩|2,_=>exact ⟨_,rfl⟩|3,_=>exact ⟨_,rfl⟩|4,_=>exact ⟨_,rfl⟩|5,_=>exact ⟨_,rfl⟩|6,_=>exact ⟨_,rfl⟩|7,_=>exact ⟨_,rfl⟩),fun j hj uP=>by omega,hB0.out⟩
  case round=>
   obtain ⟨i,cs,hik,rfl,BO,PZ,Ma,pR,qi⟩:=hrel;by_cases an:i<k
   ·obtain ⟨j0,z7⟩:∃j0,j0+i+1=k:=⟨k - i - 1,by omega⟩;have hix:(k:Int) - 1 - (i:Int)=(j0:Int):=by omega
    obtain ⟨u0,hu0⟩:=Ma j0 (by omega);have c0:=BO.is j0 hu0;have f0:=BO.frozen j0;have ZJ:j0<8:=by omega
    have HB:=Lib.hid BO;have HC:=Lib.hid pR;have HA:=Lib.hid Ma;have HJ:=Lib.hid z7;have HX:=Lib.hid hix;have HS:=Lib.hid PZ;clear BO pR Ma z7 PZ hu0;go_wp2;go_roundw;case rel=>
     have hj:=HJ.out;have hv:(n:Int) / 2 ^ (8 * i) % 256=((n / 256 ^ (k - 1 - j0) % 256:Nat):Int):=by
      rw[zU,show k - 1 - j0=i by omega];norm_cast
     refine ⟨i+1,_,by omega,by go_num,HB.out.put j0 _,by rw[Array.size_setIfInBounds];exact HS.out,fun j ZK=>?_,fun j h3 h4=>?_,qi.setCell (Nat.le_refl _) _⟩
     ·rw[Array.getElem?_setIfInBounds];split
      ·exact ⟨_,by rw[if_pos (by rw[HS.out];exact ZJ)]⟩
      ·exact HA.out j ZK
     ·rw[Array.getElem?_setIfInBounds];by_cases e:j0=j
      ·subst e;rw[if_pos rfl,if_pos (by rw[HS.out];exact ZJ),hv]
      ·rw[if_neg e];exact HC.out j (by omega) h4
    case measure=>simp[RowKit.intOf];omega
   ·obtain rfl:i=k:=by omega
    have mo:∀j u,((cG i n).flatMap cB)[j]?=some u->wr.cell? ((⟨w.heap.size,0,none⟩:Addr).add j)=some u:=fun j u hu=>by
     have BL:(⟨w.heap.size,0,none⟩:Addr).add j=⟨w.heap.size,j,none⟩:=by unfold Addr.add;split<;>simp_all
     rw[Be] at hu;have KH:j<i:=by
      rcases Nat.lt_or_ge j i with h|h
      ·exact h
      ·rw[List.getElem?_eq_none (by rw[bR];exact h)] at hu;cases hu
     rw[E7 i n j KH,Option.map_some,Option.some.injEq] at hu;rw[BL,BO.cell,pR j (by omega) KH,<-hu];simp
    have HL:=Lib.hid mo;have IN:=BO.lt;clear mo BO Ma pR PZ;go_wp2_with (at_builtin;refine wpList_append_own _ rfl (.const (.slice none 0 0)) (.tmp 41) 31 rfl w.heap.size 5 i0 z0 1 1 Tryz.underlying31 HI.out.1 HI.out.2.1 HI.out.2.2.1 HI.out.2.2.2.1 HI.out.2.2.2.2 (by omega) _ 0 [] rfl (World.ownsRow_nil wr w.heap.size 5 1) ⟨w.heap.size,0,none⟩ i 8 ((cG i n).flatMap cB) rfl (by rw[qX fE,bR]) HL.out (Ft.flat _) (by unfold maxLen;omega) (by omega) (by omega) ?_;intro v' w1 mq KE _);go_ret2;refine ⟨v',rfl,?_,qi.grown KE (by omega) (fun b hb=>by cases hb)⟩;unfold Own;rw[bR];simpa using mq
def YG(w:World)(k n:Nat)(e:Ending)(w':World):Prop:=∃v,e=.returned (.tuple #[v,.bool (decide (n<256 ^ k))])/\Own cB 1 5 w' w.heap.size v (cG k n)/\Below w.heap.size w w'
theorem Js:∀(k n:Nat) (w:World),k+1<=8->n<18446744073709551616 ->
  Calls Tryz.prog 101 #[.int .u64 n,.int .i64 ((k:Int)+1)] w (YG w (k+1) n)
 | 0,n,w,h2,hn=>by
   have HN:=Lib.hid hn;have hb:=nu.new w 5 #[.int .u8 ((n:Int) % 256)];have HB:=Lib.hid hb;clear hn hb;rw[show (((0:Nat):Int)+1)=1 from rfl];go_enter Tryz.func101,Tryz.ntmps101;go_wp2;go_ret2;refine ⟨.slice (some ⟨w.heap.size,0,none⟩) 1 1,?_,Own.TO (l:=cG 1 n) HB.out (Nat.le_refl _) ?_ fE (by rw[bR];unfold maxLen;omega),(Below.refl _ _).alloc (Nat.le_refl _) _⟩
   ·have:decide (n<256 ^ (0+1))=decide ((n:Int)<256):=by
     apply decide_eq_decide.2;simp;omega
    rw[this];rfl
   ·simp[cG,cB]
 | k+1,n,w,h2,hn=>by
   have ih:=Js k (n / 256) w (by omega) (by omega);have HI:=Lib.hid ih;have hk:(k:Int)<=6:=by omega
   have gl:0<=(k:Int):=by omega
   have HN:=Lib.hid hn;have hlen:=Lib.hid (bR (k+1) (n / 256));have hd:IntKind.u64.wrap ((n:Int) / 256)=((n / 256:Nat):Int):=by rw[IntKind.wrap_u64];omega
   have HD:=Lib.hid hd;clear hn ih hd;rw[show (((k+1:Nat):Int)+1)=(k:Int)+1+1 by omega];go_enter Tryz.func101,Tryz.ntmps101;go_wp2_with fail;rw[HD.out];refine HI.out.mono ?_;rintro e w1 ⟨v,rfl,mq,qi⟩;have HO:=Lib.hid (mq.alloc (.cells #[.int .u8 ((n:Int) % 256)] 5));have hb:=Lib.hid (nu.new w1 5 #[.int .u8 ((n:Int) % 256)]);have jD:=qi.size;have mo:Hid (ir (w1.alloc (.cells #[.int .u8 ((n:Int) % 256)] 5)) w1.heap.size 0 (cB (UInt8.ofNat (n % 256)))):=by
    have:=hb.out.lay;have e:cB (UInt8.ofNat (n % 256))=[.int .u8 ((n:Int) % 256)]:=by simp[cB]
    unfold Hid;rw[e];exact this
   clear mq;go_wp2_with (at_builtin;refine O9 wK Ft rfl (.tmp 30) (.tmp 34) rfl rfl HO.out (UInt8.ofNat (n % 256)) w1.heap.size 1 rfl mo.out (by rw[hlen.out];unfold maxLen;omega) (by rw[hlen.out];omega) (by simp;omega) ?_;intro g' cap w2 Xv KE dO acy);go_ret2;refine ⟨_,?_,Xv,(qi.alloc qi.size _).grown KE (by simp;omega) (fun b hb=>(HO.out.lt b hb).1)⟩;have:decide (n<256 ^ (k+1+1))=decide (n / 256<256 ^ (k+1)):=by
    apply decide_eq_decide.2;rw[Nat.pow_succ 256 (k+1)];omega
   rw[this];rfl
@[go_sem high] theorem abj(w:World)(A:Option Addr)(n c j:Nat)(k:IntKind)(hj:j<=n):(Instr.slice 31 (.slice A n c) (some (.int k (j:Int))) none none).run Tryz.prog w=.ok (.slice (oN A c j 1) (n - j) (c - j)) w:=
 u5 Tryz.underlying31 Tryz.sizeOf5 w A n c j k hj
@[go_sem high] theorem acf(w:World)(A:Option Addr)(n c j:Nat)(k:IntKind)(hj:j<=c):(Instr.slice 31 (.slice A n c) none (some (.int k (j:Int))) none).run Tryz.prog w=.ok (.slice A j c) w:=
 DK Tryz.underlying31 Tryz.sizeOf5 w A n c j k hj
open Go.RowKit Go.Lib
@[simp,go_sem high] theorem qF(t:List UInt8):(ByteArray.mk t.toArray).size=t.length:=by show t.toArray.size=_;simp
theorem GH(t:List UInt8):strCells ⟨t.toArray⟩=t.flatMap cB:=by
 unfold strCells;induction t with
 | nil=>rfl
 | cons a t ih=>simp_all [cB]
end Go.Proofs.YtmbdghclhpboaaaGreat
namespace Go.Proofs.YtmbdghclhpboaaaGreat.Ev
open Go.RowKit
def cS{α:Type}(v:Value)(l:List α):Prop:=(v=.slice none 0 0/\l=[])\/∃A n,v=.slice (some A) l.length n
theorem Own.slF{α:Type}{enc:α->List Value}{k:Nat}{e:TypeId}{w:World}{base:Nat}{v:Value}{l:List α}(h:Own enc k e w base v l):cS v l:=by
 rcases h.2 with ⟨rfl,h0⟩|⟨g,cap,cur,rfl,_⟩
 ·exact .inl ⟨rfl,List.eq_nil_of_length_eq_zero h0⟩
 ·exact .inr ⟨_,_,rfl⟩
section
variable{P:Program}{E:Env}{S:List Nat}{t:aE}{H:List ai}{K:AV->List ai->Prop}
theorem eH.Vl{α:Type}{enc:α->List Value}{k:Nat}{elem:TypeId}{c:Call}{s x:Operand}{v xv:Value}{l l':List α}{i:Nat}{R R1:aC}{R':Value->aC}{ty tx:TypeId}
  (hc:c={ callee:=.builtin .append,args:=#[s,x],argTypes:=#[ty,tx] }) (hs:aL t s=some (.lit v)) (hx:aL t x=some (.lit xv)) (hi:H[i]?=some (.res R))
  (lK:∀w S,R.at_ w S->bD [aA enc k elem v l,R1] w S) (uQ:∀v' w S,bD [aA enc k elem v' l',R1] w S->(R' v').at_ w S)
  (dB:∀(F:dN) (γ:aT) (w:World) (tt:TypeId),Rs F γ H w->Own enc k elem w 0 v l->∃v' w',(Builtin.append_ #[ty,tx] tt #[v,xv]).run P w=.ok v' w'/\Own enc k elem w' 0 v' l'/\w.grownBy w' v.ownBlock/\∀b,v'.ownBlock=some b->v.ownBlock=some b\/w.heap.size<=b)
  (kk:∀v',cS v' l'->mz H i (.res (R' v')) fun H'=>K (.lit v') H'):eH P S t H (.call c) K:=
 ⟨fun F γ w ρ hR cE cK bJ o ho=>by
  subst hc;have q1:=bJ s _ (by simp[Op.operands,Call.operands]) hs;have q2:=bJ x _ (by simp[Op.operands,Call.operands]) hx;rw[au] at q1 q2;obtain ⟨S1,NG,B5⟩:=y8 hR cK hi;obtain ⟨A,B,FH,⟨B1,B2,NB,PM,WV,hB⟩,PL,fM⟩:=lK w S1 NG;have mq:Own enc k elem w 0 v l:=FH.1;obtain ⟨v',w',r1,r2,r3,r4⟩:=dB F γ w o.type cK mq;have rY:∀b,B b->b<w.heap.size/\some b≠v.ownBlock:=fun b hb=>by
   refine ⟨?_,fun e=>PL b ((FH.2 b).2 e.symm) hb⟩;rcases (hB b).1 hb with h|h
   ·exact R1.lt NB h
   ·exact absurd h (PM b)
  have P1:∀b,v'.ownBlock=some b->B b->False:=fun b e hb=>by
   have h5:=rY b hb;rcases r4 b e with h6|h6
   ·exact h5.2 h6.symm
   ·omega
  have nX:∀b,(v'.ownBlock=some b\/B b)->S1 b\/w.heap.size<=b:=fun b hb=>by
   rcases hb with h|hb
   ·rcases r4 b h with h6|h6
    ·exact .inl ((fM b).2 (.inl ((FH.2 b).2 h6)))
    ·exact .inr h6
   ·exact .inl ((fM b).2 (.inr hb))
  have kV:bD [aA enc k elem v' l',R1] w' (fun b=>v'.ownBlock=some b\/B b):=
   ⟨fun b=>v'.ownBlock=some b,B,⟨r2,fun b=>Iff.rfl⟩,⟨B1,B2,R1.mu NB fun b hb=>r3.block b (rY b ((hB b).2 (.inl hb))).1 (rY b ((hB b).2 (.inl hb))).2,PM,WV,hB⟩,P1,fun b=>Iff.rfl⟩
  obtain ⟨u1,u2⟩:=B5 w' (fun b=>v'.ownBlock=some b\/B b) (R' v') (uQ _ _ _ kV) nX ⟨r3.os,r3.tape,r3.output,r3.size,fun b hb hn=>r3.block b hb fun e=>hn ((fM b).2 (.inl ((FH.2 b).2 e.symm)))⟩;have dS:=kk v' (Own.slF r2);rw[k9] at dS;refine ⟨_,_,γ,.value v',w',?_,.inl ⟨_,rfl,aS γ _⟩,dS,u1,?_,fun q hq=>cE q (by simpa using hq),u2⟩
  ·obtain ⟨dst,op,type,pos,after,guard⟩:=o;simp only[] at ho;subst ho;simp only[execOp,resolve,invoke,builtin,Sem.run_bind,Sem.run_pure,Result.andThen_ok,List.map_toArray,List.map_cons,List.map_nil,q1,q2,r1]
  ·rw[xb hi];exact .refl γ _⟩
theorem eH.V6(hE:cL P E){α:Type}{enc:α->List Value}{k:Nat}{ty elem:TypeId}(hA:iO E ty elem k)(hk:∀a,(enc a).length=k)(h0:0<k)(h1:∀a,∀u∈enc a,u.oneCell'=true){c:Call}{s x:Operand}{v:Value}{l l2:List α}{A:Option Addr}{m:Nat}{i j:Nat}{R R1 Rr:aC}{R':Value->aC}
  (hc:c={ callee:=.builtin .append,args:=#[s,x],argTypes:=#[ty,ty] }) (hs:aL t s=some (.lit v)) (hx:aL t x=some (.lit (.slice A l2.length m))) (aP:l2≠[]) (hi:H[i]?=some (.res R)) (KG:H[j]?=some (.res Rr))
  (bu:∀w S,Rr.at_ w S->∃b off,A=some ⟨b,off,none⟩/\ir w b off (l2.flatMap enc))
  (lK:∀w S,R.at_ w S->bD [aA enc k elem v l,R1] w S) (uQ:∀v' w S,bD [aA enc k elem v' (l++l2),R1] w S->(R' v').at_ w S) (hlen:l.length+l2.length<=2147483648)
  (kk:∀v',cS v' (l++l2)->mz H i (.res (R' v')) fun H'=>K (.lit v') H'):eH P S t H (.call c) K:=by
 refine eH.Vl hc hs hx hi lK uQ (fun F γ w tt cK mq=>?_) kk;obtain ⟨r,hr,hu⟩:=hA.ty;obtain ⟨er,z,he,pg,hz,uS,hb⟩:=hA.el;obtain ⟨T0,sX,_⟩:=cK.out;obtain ⟨Sr,_,W8,_⟩:=db (i:=j) (r:=Rr) sX (by unfold cz;rw[List.getElem?_map,KG];rfl);obtain ⟨b,off,rfl,mo⟩:=bu w Sr W8;have nC:0<l2.length:=List.length_pos_iff.2 aP;have sk:z.cells.size=k:=by
  have:=bB (fH (dg γ z));rw[uS] at this;simpa using this
 obtain ⟨g,cap,w',r1,r2,r3,r4,r5⟩:=run_append_lies (P:=P) w ty tt 0 elem er.info z k er.info.bytes (by rw[hE.bp ty r hr,hu]) (mO w (hE.info elem er he)) hz pg rfl sk h0 v l.length _ mq ⟨b,off,none⟩ l2.length m (l2.flatMap enc) (by rw[eC hk]) (fun j u hj=>by rw[Addr.add_mid];exact mo j u hj) (fun u hu=>by
   obtain ⟨a,_,h2⟩:=List.mem_flatMap.1 hu;exact h1 a u h2) nC (by unfold maxLen;omega) (Nat.le_trans (Nat.mul_le_mul hlen hb) (by decide)) (Nat.zero_le _) _ rfl
 refine ⟨_,w',r1,?_,r3,fun b hb=>?_⟩
 ·unfold Own;rw[List.length_append,List.flatMap_append];exact r2
 ·simp only[Value.ownBlock,Option.some.injEq] at hb;subst hb;rcases r4 with h|h
  ·exact .inl h
  ·exact .inr (by omega)
end
