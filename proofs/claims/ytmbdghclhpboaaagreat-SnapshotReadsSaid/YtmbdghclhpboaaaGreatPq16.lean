/- Part of the proof: SyK. Conditions: as each states. -/
import Derived.Test.YtmbdghclhpboaaaGreatPq15
import Derived.Deep.MidRow
set_option linter.all false
namespace Go.Proofs.YtmbdghclhpboaaaGreat.Ev
open Go.RowKit
theorem jV:∀{L:List aC} {w:World} {S1 S2:Nat->Prop} {i:Nat} {r:aC},bD (L.set i aB) w S2->i<L.length->r.at_ w S1->(∀b,S1 b->S2 b->False)->bD (L.set i r) w (fun b=>S1 b\/S2 b)
 | [],_,_,_,_,_,_,h,_,_=>by simp at h
 | x::L,w,S1,S2,0,r,⟨A,B,h1,h2,_,hT⟩,_,h3,hd=>by
   refine ⟨S1,B,h3,h2,fun b x y=>hd b x ((hT b).2 (.inr y)),fun b=>?_⟩;show S1 b\/S2 b↔S1 b\/B b
   rw[hT b];exact ⟨fun h=>h.elim .inl (fun h=>h.elim (fun h=>absurd h (h1 b)) .inr),fun h=>h.elim .inl (fun h=>.inr (.inr h))⟩
 | x::L,w,S1,S2,i+1,r,⟨A,B,h1,h2,PL,hT⟩,hi,h3,hd=>by
   have h4:=jV h2 (by simpa using hi) h3 (fun b x y=>hd b x ((hT b).2 (.inr y)));refine ⟨A,fun b=>S1 b\/B b,h1,h4,fun b x y=>y.elim (fun y=>hd b y ((hT b).2 (.inl x))) (PL b x),fun b=>?_⟩;show S1 b\/S2 b↔A b\/(S1 b\/B b)
   rw[hT b];exact ⟨fun h=>h.elim (fun h=>.inr (.inl h)) (fun h=>h.elim .inl (fun h=>.inr (.inr h))),fun h=>h.elim (fun h=>.inr (.inl h)) (fun h=>h.elim .inl (fun h=>.inr (.inr h)))⟩
theorem aU.chg{F:dN}{γ:aT}{σ:AS}{w w':World}{S:Nat->Prop}(h:aU F γ σ w)(c:YB S w w')(hS:∀b,S b->¬F.fz b/\∀o p,γ o=some (some p)->p.block≠b):aU F γ σ w':=
 ⟨⟨h.j6,fun o p hp=>let ⟨ob,h1,h2⟩:=h.obj o p hp;⟨ob,h1,h2.mono (.refl γ) (c.block _ (h.lt hp) fun hs=>(hS _ hs).2 o p hp rfl)⟩,h.gone,h.inj,h.aY⟩,h.live,
  ⟨c.os.trans h.frame.os,c.tape.trans h.frame.tape,c.output.trans h.frame.output,Nat.le_trans h.frame.size c.size,h.frame.gE,fun b hb=>(c.block b (Nat.lt_of_lt_of_le (h.frame.gE b hb) h.frame.size) fun hs=>(hS b hs).1 hb).trans (h.frame.block b hb),h.frame.own⟩⟩
theorem xb{H:List ai}{i:Nat}{R R':aC}(hi:H[i]?=some (.res R)):hp (H.set i (.res R'))=hp H:=KK (by
 apply List.ext_getElem?;intro j;rw[List.getElem?_map,List.getElem?_map,List.getElem?_set];split
 ·rename_i e;subst e;obtain ⟨hl,_⟩:=lE1.1 hi;rw[if_pos hl,hi];rfl
 ·rfl)
theorem y8{F:dN}{γ:aT}{H:List ai}{w:World}{i:Nat}{R:aC}(hR:aU F γ (hp H) w)(cK:Rs F γ H w)(hi:H[i]?=some (.res R)) :
  ∃S1,R.at_ w S1/\∀w' SH R',R'.at_ w' SH->(∀b,SH b->S1 b\/w.heap.size<=b)->YB S1 w w'->aU F γ (hp (H.set i (.res R'))) w'/\Rs F γ (H.set i (.res R')) w':=by
 obtain ⟨T,hT,mK⟩:=cK.out;have yx:(cz H)[i]?=some R:=by unfold cz;rw[List.getElem?_map,hi];rfl
 have tf:i<(cz H).length:=(lE1.1 yx).1;obtain ⟨S1,S2,b1,b2,b3,b4⟩:=db hT yx;refine ⟨S1,b1,fun w' SH R' k1 k2 k3=>?_⟩;have fM:∀b,S1 b->¬F.fz b/\∀o p,γ o=some (some p)->p.block≠b:=fun b hb=>mK b ((b4 b).2 (.inl hb));refine ⟨by rw[xb hi];exact hR.chg k3 fM,fun b=>SH b\/S2 b,?_,fun b hb=>?_⟩
 ·have e:cz (H.set i (.res R'))=(cz H).set i R':=by unfold cz;rw[List.map_set];rfl
  rw[e];refine jV (iV b2 fun b hb=>k3.block b (jq b2 hb) fun hs=>b3 b hs hb) tf k1 fun b x y=>?_;rcases k2 b x with x|x
  ·exact b3 b x y
  ·have:=jq b2 y;omega
 ·rcases hb with hb|hb
  ·rcases k2 b hb with x|x
   ·exact fM b x
   ·refine ⟨fun hf=>?_,fun o p hp e=>?_⟩
    ·have:=hR.frame.gE b hf;have:=hR.frame.size;omega
    ·have:=hR.lt hp;omega
  ·exact mK b ((b4 b).2 (.inr hb))
theorem mO{P:Program}{t:TypeId}{i:TypeInfo}(w:World)(h:∀w,(typeInfo t).run P w=.ok i w):P.info? t=some i:=by
 have h:=h w;unfold typeInfo at h;cases hi:P.info? t with
 | none=>simp[hi] at h
 | some j=>simp[hi] at h;rw[h]
theorem append_empty{P:Program}(w:World)(t ty e:TypeId)(i:TypeInfo)(ht:P.underlying t=some (.slice e))(hi:P.info? e=some i)(a:Addr)(b:Option Addr)(m c:Nat)(hm:0<m)(gA:m * i.bytes<=2 ^ 48)(w8:m<=maxLen) :
  (Builtin.append_ #[t,t] ty #[.slice (some a) 0 0,.slice b m c]).run P w=(Builtin.append_ #[t,t] ty #[.slice none 0 0,.slice b m c]).run P w:=by
 have hu:∀w:World,(underlying t).run P w=.ok (.slice e) w:=fun w=>run_underlying ht w;have hn:Builtin.nextslicecap (0+m) 0=m:=by unfold Builtin.nextslicecap;rw[if_pos (by omega)];omega
 have hs:∀w:World,(sizeOf e).run P w=.ok i.size w:=fun w=>by simp[sizeOf,typeInfo,hi]
 have yx:∀w:World,(typeInfo e).run P w=.ok i w:=fun w=>by simp[typeInfo,hi]
 have h1:¬(0+m<=0):=by omega
 have h2:¬(m * i.bytes>2 ^ 48):=by omega
 have h3:¬(((0+m:Nat):Int)>IntKind.i64.max/\(False\/i.bytes=0)):=fun h=>by
  have:=h.1;have e:IntKind.i64.max=9223372036854775807:=by decide
  rw[e] at this;unfold maxLen at w8;omega
 have tj:loadCells a 0=pure #[]:=rfl;unfold Builtin.append_;simp only[Sem.run_bind,hu,hs,yx,Result.andThen_ok,Sem.run_pure,List.getElem?_toArray,List.getElem?_cons_zero,List.getElem?_cons_succ,Builtin.lenOf,if_neg h1,hn,if_neg h2,Builtin.firstCells,Nat.zero_mul,Bool.false_eq_true,if_false,if_neg h3,tj]
section
variable{P:Program}{E:Env}{S:List Nat}{t:aE}{H:List ai}{K:AV->List ai->Prop}
theorem eH.O7(hE:cL P E){α:Type}{enc:α->List Value}{k:Nat}{ty elem:TypeId}(hA:iO E ty elem k)(hk:∀a,(enc a).length=k)(h0:0<k)(h1:∀a,∀u∈enc a,u.oneCell'=true){c:Call}{s x:Operand}{v:Value}{sv:AV}{l:List α}{ox cp:Nat}{ys:List AV}{ex:TypeId}{y:α}{i:Nat}{R R1:aC}{R':Value->aC}
  (hc:c={ callee:=.builtin .append,args:=#[s,x],argTypes:=#[ty,ty] }) (hs:aL t s=some sv) (XF:∀γ x,aw γ sv x->x=v\/(v=.slice none 0 0/\∃a0,x=.slice (some a0) 0 0)) (hx:aL t x=some (.slice ox 0 1 (.k cp))) (NU:H[ox]?=some (.cells ys ex)) (hS:nZ S ox=false) (hl:nQ ys=some (enc y)) (hi:H[i]?=some (.res R))
  (lK:∀w S,R.at_ w S->bD [aA enc k elem v l,R1] w S) (uQ:∀v' w S,bD [aA enc k elem v' (l++[y]),R1] w S->(R' v').at_ w S) (hlen:l.length+1<=2147483648)
  (kk:∀A n,mz H i (.res (R' (.slice (some A) (l.length+1) n))) fun H'=>K (.lit (.slice (some A) (l.length+1) n)) H'):eH P S t H (.call c) K:=
 ⟨fun F γ w ρ hR cE cK bJ o ho=>by
  subst hc;obtain ⟨r,hr,hu⟩:=hA.ty;obtain ⟨er,z,he,pg,hz,uS,hb⟩:=hA.el;have q1:=bJ s _ (by simp[Op.operands,Call.operands]) hs;have q2:=bJ x _ (by simp[Op.operands,Call.operands]) hx;have q1:=XF γ _ q1;simp only[aw] at q2;obtain ⟨a,c,e2,dO,h1c,_⟩:=q2;have hSn:ox∉S:=fun h=>by rw[uw.2 h] at hS;cases hS
  have ZX:=(lE1.1 NU).1;have an:H.length<=aY:=hR.aY;obtain ⟨p,hp,tu⟩:=hR.toRel.find (o:=ox) (ob:=.cells ys ex) (by rw[aZ an,NU];rfl) (by simp) (cE ox ZX hSn);have dO:gY γ ox 0 a:=dO.resolve_left (by omega);unfold gY at dO;rw[hp] at dO;simp only[Nat.add_zero] at dO;obtain ⟨cc,g1,g2,g3,g4⟩:=tu;obtain ⟨S1,NG,B5⟩:=y8 hR cK hi;obtain ⟨A,B,FH,⟨B1,B2,NB,PM,WV,hB⟩,PL,fM⟩:=lK w S1 NG;have mq:Own enc k elem w 0 v l:=FH.1;have qp:=oD hl;have sk:z.cells.size=k:=by
   have:=bB (fH (dg γ z));rw[uS] at this;simpa using this
  obtain ⟨g,cap,w',r1,r2,r3,r4,r5⟩:=run_append_lies (P:=P) w ty o.type 0 elem er.info z k er.info.bytes (by rw[hE.bp ty r hr,hu]) (mO w (hE.info elem er he)) hz pg rfl sk h0 v l.length _ mq a 1 c (enc y) (by rw[hk,Nat.one_mul]) (fun j u hj=>by
   have uP:ys[j]?=some (.lit u):=by rw[qp];simp[hj]
   obtain ⟨x',k1,k2⟩:=g4 j _ uP;rw[au] at k2;rw[dO];have e:(⟨p.block,p.base,none⟩:Addr).add j=⟨p.block,p.base+j,none⟩:=by unfold Addr.add;split<;>simp_all
   rw[e,cell_of_row w p.block (p.base+j) cc ex (0,0) g1,k1,k2]) (h1 y) (by omega) (by unfold maxLen;omega) (Nat.le_trans (Nat.mul_le_mul hlen hb) (by decide)) (Nat.zero_le _) _ rfl
  have rY:∀b,B b->b<w.heap.size/\some b≠v.ownBlock:=fun b hb=>by
   refine ⟨?_,fun e=>PL b ((FH.2 b).2 e.symm) hb⟩;rcases (hB b).1 hb with h|h
   ·exact R1.lt NB h
   ·exact absurd h (PM b)
  have eJ:∀b,(Value.slice (some ⟨g,0,none⟩) (l.length+1) cap).ownBlock=some b↔b=g:=fun b=>by simp[Value.ownBlock,eq_comm]
  have P1:∀b,b=g->B b->False:=fun b e hb=>by
   subst e;have h5:=rY b hb;rcases r4 with h6|h6
   ·exact h5.2 h6.symm
   ·omega
  have nX:∀b,(b=g\/B b)->S1 b\/w.heap.size<=b:=fun b hb=>by
   rcases hb with rfl|hb
   ·rcases r4 with h6|h6
    ·exact .inl ((fM b).2 (.inl ((FH.2 b).2 h6)))
    ·exact .inr (by omega)
   ·exact .inl ((fM b).2 (.inr hb))
  have kV:bD [aA enc k elem (.slice (some ⟨g,0,none⟩) (l.length+1) cap) (l++[y]),R1] w' (fun b=>b=g\/B b):=
   ⟨fun b=>b=g,B,⟨by
    have:=r2;unfold Own;rw[List.length_append,List.flatMap_append];simpa using this,fun b=>(eJ b).symm⟩,⟨B1,B2,R1.mu NB fun b hb=>r3.block b (rY b ((hB b).2 (.inl hb))).1 (rY b ((hB b).2 (.inl hb))).2,PM,WV,hB⟩,P1,fun b=>Iff.rfl⟩
  obtain ⟨u1,u2⟩:=B5 w' (fun b=>b=g\/B b) (R' (.slice (some ⟨g,0,none⟩) (l.length+1) cap)) (uQ _ _ _ kV) nX ⟨r3.os,r3.tape,r3.output,r3.size,fun b hb hn=>r3.block b hb fun e=>hn ((fM b).2 (.inl ((FH.2 b).2 e.symm)))⟩;have dS:=kk ⟨g,0,none⟩ cap;rw[k9] at dS;refine ⟨_,_,γ,.value (.slice (some ⟨g,0,none⟩) (l.length+1) cap),w',?_,.inl ⟨_,rfl,aS γ _⟩,dS,u1,?_,fun q hq=>cE q (by simpa using hq),u2⟩
  ·obtain ⟨dst,op,type,pos,after,guard⟩:=o;simp only[] at ho;subst ho;have r0:(Builtin.append_ #[ty,ty] type #[ρ s,.slice (some a) 1 c]).run P w=(Builtin.append_ #[ty,ty] type #[v,.slice (some a) 1 c]).run P w:=by
    rcases q1 with q1|⟨rfl,a0,q1⟩
    ·rw[q1]
    ·rw[q1];exact append_empty w ty type elem er.info (by rw[hE.bp ty r hr,hu]) (mO w (hE.info elem er he)) a0 _ 1 c (by decide) (Nat.le_trans (Nat.mul_le_mul (Nat.le_trans (Nat.le_add_left 1 _) hlen) hb) (by decide)) (by unfold maxLen;omega)
   rw[<-r0] at r1;simp only[execOp,resolve,invoke,builtin,Sem.run_bind,Sem.run_pure,Result.andThen_ok,List.map_toArray,List.map_cons,List.map_nil,e2,r1]
  ·rw[xb hi];exact .refl γ _⟩
theorem eH.iw(hE:cL P E){α:Type}{enc:α->List Value}{k:Nat}{ty elem:TypeId}(hA:iO E ty elem k)(hk:∀a,(enc a).length=k)(h0:0<k)(h1:∀a,∀u∈enc a,u.oneCell'=true){c:Call}{s x:Operand}{v:Value}{l:List α}{ox cp:Nat}{ys:List AV}{ex:TypeId}{y:α}{i:Nat}{R R1:aC}{R':Value->aC}
  (hc:c={ callee:=.builtin .append,args:=#[s,x],argTypes:=#[ty,ty] }) (hs:aL t s=some (.lit v)) (hx:aL t x=some (.slice ox 0 1 (.k cp))) (NU:H[ox]?=some (.cells ys ex)) (hS:nZ S ox=false) (hl:nQ ys=some (enc y)) (hi:H[i]?=some (.res R))
  (lK:∀w S,R.at_ w S->bD [aA enc k elem v l,R1] w S) (uQ:∀v' w S,bD [aA enc k elem v' (l++[y]),R1] w S->(R' v').at_ w S) (hlen:l.length+1<=2147483648)
  (kk:∀A n,mz H i (.res (R' (.slice (some A) (l.length+1) n))) fun H'=>K (.lit (.slice (some A) (l.length+1) n)) H'):eH P S t H (.call c) K:=
 .O7 hE hA hk h0 h1 hc hs (fun γ x h=>.inl (by rwa [au] at h)) hx NU hS hl hi lK uQ hlen kk
theorem eH.O8(hE:cL P E){α:Type}{enc:α->List Value}{k:Nat}{ty elem:TypeId}(hA:iO E ty elem k)(hk:∀a,(enc a).length=k)(h0:0<k)(h1:∀a,∀u∈enc a,u.oneCell'=true){c:Call}{s x:Operand}{ox cp:Nat}{ys:List AV}{ex:TypeId}{y:α}{i:Nat}{R R1:aC}{R':Value->aC}
  (hc:c={ callee:=.builtin .append,args:=#[s,x],argTypes:=#[ty,ty] }) {so sf:Nat} (hs:aL t s=some (.slice so sf 0 (.k 0))) (hx:aL t x=some (.slice ox 0 1 (.k cp))) (NU:H[ox]?=some (.cells ys ex)) (hS:nZ S ox=false) (hl:nQ ys=some (enc y)) (hi:H[i]?=some (.res R))
  (lK:∀w S,R.at_ w S->bD [aA enc k elem (.slice none 0 0) ([]:List α),R1] w S) (uQ:∀v' w S,bD [aA enc k elem v' [y],R1] w S->(R' v').at_ w S)
  (kk:∀A n,mz H i (.res (R' (.slice (some A) 1 n))) fun H'=>K (.lit (.slice (some A) 1 n)) H'):eH P S t H (.call c) K:=
 .O7 (v:=.slice none 0 0) (l:=[]) hE hA hk h0 h1 hc hs (fun γ x h=>let ⟨a,_,h1,_,_,h2⟩:=h;.inr ⟨rfl,a,by rw[h1];exact congrArg _ h2⟩) hx NU hS hl hi lK uQ (by simp) kk
theorem al.om{op:Op}(h:eH P S t H op K):al E P true S t H op K:=⟨.inr ⟨rfl,h⟩⟩
theorem dx.om{c:Call}{ty:TypeId}{s x:AV}(h:eH P S t H (.call c) K):dx E P true S t c ty s x H K:=⟨.inr ⟨rfl,h⟩⟩
theorem al.MJ{m:Bool}{ty e:TypeId}{a v':Operand}{p off size:Nat}{v:AV}{xs vs:List Value}{r:dd}(ha:aL t a=some (.ptr p off))(hv:aL t v'=some v)(ho:H[p]?=some (.row xs e))(kW:E.ty ty=some r)(jD:r.info.size=size)(F8:nQ v.cells=some vs)(hlen:Nat.beq vs.length size=true)(xa:v.cells.all AV.one=true)(oT:off+size<=xs.length)(hl:Nat.ble H.length aY=true)
  (k:mz H p (.row (setFrom xs off vs) e) fun H'=>K aQ H'):al E P m S t H (.store ty a v') K:=.ev (by
 have hl:=nB1 hl;have an:=(lE1.1 ho).1;have hg:(hp H).heap.get p=some (.cells (xs.map .lit) e):=by rw[aZ hl,ho];rfl
 rw[k9] at k;have KS:=oD F8;have hn:=nQ1 hlen;have e1:setFrom (xs.map AV.lit) off v.cells=(setFrom xs off vs).map AV.lit:=by
  rw[KS];unfold setFrom;simp[List.map_take,List.map_drop]
 refine ⟨.act aQ { hp H with heap:=(hp H).heap.put p (vw (.row (setFrom xs off vs) e)) },?_,_,qn (ob:=.row (setFrom xs off vs) e) hl an,jS _,.of_eq (qC (ob:=.row (setFrom xs off vs) e) ho rfl).symm,k⟩;simp only[bK,ha,hv,xT,kW,hg,xa,Bool.and_true];rw[show Nat.beq v.cells.length r.info.size=true by rw[KS,List.length_map,hn,jD];exact Nat.beq_refl _,show Nat.ble (off+r.info.size) (xs.map AV.lit).length=true from Nat.ble_eq_true_of_le (by rw[jD,List.length_map];exact oT)];simp only[Bool.and_self,Option.map_some,e1,vw])
end
theorem rG{α:Type}{x:α}:∀{xs:List α} {i:Nat},i<xs.length->setFrom xs i [x]=xs.set i x
 | y::xs,0,_=>by simp[setFrom]
 | y::xs,i+1,h=>by
   have:=rG (x:=x) (xs:=xs) (i:=i) (by simpa using h);unfold setFrom at this ⊢;simp only[List.take_succ_cons,List.cons_append,List.set_cons_succ,List.length_cons,List.length_nil,Nat.zero_add,List.cons.injEq,true_and];simpa using this
section
variable{α:Type}{enc:α->List Value}{k:Nat}(hk:∀a,(enc a).length=k)
include hk
theorem CR:∀(l:List α) (i:Nat) (x:α),i<l.length->setFrom (l.flatMap enc) (i * k) (enc x)=(l.set i x).flatMap enc
 | [],i,x,h=>absurd h (by simp)
 | a::l,0,x,_=>by
   unfold setFrom;simp only[Nat.zero_mul,List.take_zero,List.nil_append,Nat.zero_add,List.flatMap_cons,List.set_cons_zero,hk];rw[List.drop_append,List.drop_of_length_le (by rw[hk];exact Nat.le_refl _),hk,Nat.sub_self,List.drop_zero,List.nil_append]
 | a::l,i+1,x,h=>by
   have ih:=CR l i x (by simpa using h);unfold setFrom at ih ⊢;have e:(i+1) * k=k+i * k:=by rw[Nat.add_mul];omega
   rw[e,List.flatMap_cons,List.set_cons_succ,List.flatMap_cons,<-ih,List.take_append,List.take_of_length_le (by rw[hk];omega),hk,List.drop_append,List.drop_of_length_le (by rw[hk];omega),hk];rw[show k+i * k - k=i * k by omega,show k+i * k+k - (enc a).length=i * k+k by rw[hk];omega];simp[List.append_assoc]
theorem xK{l:List α}{i j:Nat}{u:Value}(hi:i<l.length)(hj:(enc l[i])[j]?=some u):(l.flatMap enc)[i * k+j]?=some u:=by
 have Tf:=sQ hk l i hi;have KH:j<k:=by have:=(lE1.1 hj).1;rwa [hk] at this
 rw[<-Tf,List.getElem?_take,if_pos KH,List.getElem?_drop] at hj;exact hj
end
section
variable{α:Type}{enc:α->List Value}{k:Nat}{l:List α}{i:Nat}{a:α}
theorem de{α:Type}{l:List α}{i:Nat}{a:α}(h:l[i]?=some a):i<l.length:=(lE1.1 h).1
theorem Ay{α:Type}{l:List α}{i:Nat}{a:α}(h:l[i]?=some a):l[i]'(de h)=a:=(lE1.1 h).2
theorem kO{α:Type}{l:List α}{i:Nat}{a b:α}(h:l[i]?=some a):(l.set i b)[i]?=some b:=by rw[List.getElem?_set,if_pos rfl,if_pos (de h)]
theorem dL.j8{K:AV->Prop}{off j size:Nat}{u:Value}(hk:∀a,(enc a).length=k)(h:l[i]?=some a)(ho:off=0+i * k+j)(hj:(enc a)[j]?=some u)(q:K (.lit u)):dL (l.flatMap enc) off size false K:=by
 subst ho;rw[Nat.zero_add];exact dL.one u (xK hk (de h) (by rw[Ay h];exact hj)) q
theorem dL.zu{K:AV->Prop}{off j size:Nat}{cs:List Value}(hk:∀a,(enc a).length=k)(h:l[i]?=some a)(ho:off=0+i * k+j)(hj:Nat.ble (j+size) k=true)(pR:((enc a).drop j).take size=cs)(q:K (.agg (cs.map .lit))):dL (l.flatMap enc) off size true K:=by
 subst ho;have hj:=nB1 hj;have hlen:=eC hk l;have hb:i * k+k<=l.length * k:=by
  have:=Nat.mul_le_mul_right k (de h);rwa [Nat.succ_mul] at this
 refine dL.agg cs (by omega) ?_ q;rw[<-pR,<-Ay h,<-sQ hk l i (de h),Nat.zero_add];apply List.ext_getElem?;intro q;rw[List.getElem?_take,List.getElem?_take,List.getElem?_drop,List.getElem?_drop,List.getElem?_take,List.getElem?_drop];split
 ·rw[if_pos (by omega)];congr 1;omega
 ·rfl
end
theorem rH{α:Type}{xs vs:List α}{off:Nat}(h:off+vs.length<=xs.length)(q:Nat):(setFrom xs off vs)[q]?=if off<=q/\q<off+vs.length then vs[q - off]? else xs[q]?:=ki xs vs off q h
theorem Oq{α:Type}{enc:α->List Value}{k:Nat}(hk:∀a,(enc a).length=k){l:List α}{i j:Nat}{us:List Value}{a x:α}(h:l[i]?=some a)(hj:j+us.length<=k)(he:enc x=setFrom (enc a) j us):setFrom (l.flatMap enc) (i * k+j) us=(l.set i x).flatMap enc:=by
 have hlen:=eC hk l;have hb:i * k+k<=l.length * k:=by
  have:=Nat.mul_le_mul_right k (de h);rwa [Nat.succ_mul] at this
 rw[<-CR hk l i x (de h)];have Tf:=sQ hk l i (de h);rw[Ay h] at Tf;apply List.ext_getElem?;intro q;rw[rH (by omega),rH (by rw[hk];omega),he];by_cases h1:i * k<=q/\q<i * k+k
 ·rw[if_pos (show i * k<=q/\q<i * k+(setFrom (enc a) j us).length by rw[gR _ _ _ (by rw[hk];exact hj),hk];exact h1),rH (by rw[hk];exact hj)];by_cases h2:i * k+j<=q/\q<i * k+j+us.length
  ·rw[if_pos h2,if_pos (by omega)];congr 1;omega
  ·rw[if_neg h2,if_neg (by omega),<-Tf,List.getElem?_take,if_pos (by omega),List.getElem?_drop];congr 1;omega
 ·rw[if_neg (by omega),if_neg (show ¬(i * k<=q/\q<i * k+(setFrom (enc a) j us).length) by rw[gR _ _ _ (by rw[hk];exact hj),hk];exact h1)]
section
variable{P:Program}{E:Env}{S:List Nat}{t:aE}{H:List ai}{K:AV->List ai->Prop}
theorem al.ow{α:Type}{enc:α->List Value}{k:Nat}{l:List α}{i j:Nat}{a x:α}{m:Bool}{ty e:TypeId}{ad v':Operand}{p off size:Nat}{v:AV}{vs:List Value}{r:dd}(hk:∀a,(enc a).length=k)(h:l[i]?=some a)(ha:aL t ad=some (.ptr p off))(oT:off=0+i * k+j)(hv:aL t v'=some v)(ho:H[p]?=some (.row (l.flatMap enc) e))(kW:E.ty ty=some r)(jD:r.info.size=size)(F8:nQ v.cells=some vs)(hlen:Nat.beq vs.length size=true)(xa:v.cells.all AV.one=true)(hj:Nat.ble (j+size) k=true)(hl:Nat.ble H.length aY=true)(he:enc x=setFrom (enc a) j vs)
  (q:mz H p (.row ((l.set i x).flatMap enc) e) fun H'=>K aQ H'):al E P m S t H (.store ty ad v') K:=by
 subst oT;have hj:=nB1 hj;have hn:=nQ1 hlen;have Xo:=eC hk l;have hb:i * k+k<=l.length * k:=by
  have:=Nat.mul_le_mul_right k (de h);rwa [Nat.succ_mul] at this
 refine al.MJ ha hv ho kW jD F8 hlen xa (by omega) hl ?_;rw[Nat.zero_add,Oq hk h (by omega) he];exact q
end
theorem Rs.nY{F:dN}{γ:aT}{H:List ai}{w:World}{i:Nat}{R:aC}{q:Prop}(h:Rs F γ H w)(hi:H[i]?=some (.res R))(hq:∀w S,R.at_ w S->q):q:=by
 obtain ⟨T,hT,_⟩:=h.out;obtain ⟨S1,_,b1,_⟩:=db (i:=i) (r:=R) hT (by unfold cz;rw[List.getElem?_map,hi];rfl);exact hq w S1 b1
theorem aj.nY{P:Program}{S:List Nat}{f:Nat}{args:List AV}{H:List ai}{K:AV->List ai->Prop}{q:Prop}{R:aC}(i:Nat)(hi:H[i]?=some (.res R))(hq:∀w S,R.at_ w S->q)(c:q->aj P S f args H K):aj P S f args H K:=
 ⟨fun F γ w xs hR cE cK gV=>(c (cK.nY hi hq)).out F γ w xs hR cE cK gV⟩
theorem aM.nY{P:Program}{n k:Nat}{c:Code}{t:aE}{H:List ai}{Q:fR->aE->List ai->Prop}{q:Prop}{R:aC}(i:Nat)(hi:H[i]?=some (.res R))(hq:∀w S,R.at_ w S->q)(h:q->aM P n k c t H Q):aM P n k c t H Q:=
 ⟨fun F γ w a R' hR hT hQ=>(h (hR.rs.nY hi hq)).out F γ w a R' hR hT hQ⟩
theorem bj.gO{R:aC}(h:∀w,R.at_ w fun _=>False)(L:List aC):bj L (L++[R]):=fun w T ht=>⟨T,fun _ h=>h,dK.2 ⟨T,fun _=>False,ht,⟨fun _=>False,fun _=>False,h w,fun _ h=>h,fun _ h _=>h,fun b=>by simp⟩,fun _ _ h=>h,fun b=>by simp⟩⟩
theorem bj.split{L:List aC}{i j:Nat}{R R1 R2:aC}(hi:L[i]?=some R)(hj:L[j]?=some aB)(pS:Nat.beq i j=false)(h:∀w S,R.at_ w S->bD [R2,R1] w S):bj L ((L.set i R1).set j R2):=fun w T hT=>by
 have pS:=Nat.ne_of_beq_eq_false pS;obtain ⟨S1,S2,h1,h2,h3,h4⟩:=db hT hi;obtain ⟨A,B,a1,⟨B1,B2,b1,b2,b3,b4⟩,a2,a3⟩:=h w S1 h1;have WU:∀b,B b↔B1 b:=fun b=>(b4 b).trans ⟨fun h=>h.elim id (fun h=>absurd h (b2 b)),.inl⟩;have e1:=jV (i:=i) (r:=R1) h2 (de hi) b1 (fun b x y=>h3 b ((a3 b).2 (.inr ((WU b).2 x))) y);have hj':(L.set i R1)[j]?=some aB:=by rw[List.getElem?_set,if_neg pS];exact hj
 obtain ⟨C1,C2,c1,c2,c3,c4⟩:=db e1 hj';have e2:=jV (i:=j) (r:=R2) c2 (de hj') a1 (fun b x y=>by
  rcases (c4 b).2 (.inr y) with h|h
  ·exact a2 b x ((WU b).2 h)
  ·exact h3 b ((a3 b).2 (.inl x)) h)
 refine ⟨_,fun b hb=>?_,e2⟩;rcases hb with hb|hb
 ·exact (h4 b).2 (.inl ((a3 b).2 (.inl hb)))
 ·rcases (c4 b).2 (.inr hb) with h|h
  ·exact (h4 b).2 (.inl ((a3 b).2 (.inr ((WU b).2 h))))
  ·exact (h4 b).2 (.inr h)
theorem aM.part{P:Program}{n k:Nat}{c:Code}{t:aE}{H:List ai}{Q:fR->aE->List ai->Prop}{R:aC}(R1 R2:aC)(i:Nat)(hi:H[i]?=some (.res R))(h:∀w S,R.at_ w S->bD [R2,R1] w S)(hl:Nat.blt H.length aY=true)(q:aM P n k c t (H.set i (.res R1)++[.res R2]) Q):aM P n k c t H Q:=by
 have tf:=de hi;have e1:cz (H++[ai.res aB])=cz H++[aB]:=by unfold cz;rw[List.map_append];rfl
 have e2:cz (H.set i (.res R1)++[.res R2])=((cz H++[aB]).set i R1).set H.length R2:=by
  unfold cz;rw[List.map_append,List.map_set,List.set_append_left _ _ (by rw[List.length_map];exact tf),List.set_append_right _ _ (by rw[List.length_set,List.length_map];exact Nat.le_refl _),List.length_set,List.length_map,Nat.sub_self];rfl
 refine aM.pre ((eg.more (R:=aB) hl (bj.tX _)).trans (eg.same (H2:=H.set i (.res R1)++[.res R2]) ?_ ?_)) q
 ·rw[List.map_append,List.map_append,List.map_set];congr 1;apply List.ext_getElem?;intro j;rw[List.getElem?_set];split
  ·rename_i e;subst e;rw[List.getElem?_map,hi,if_pos (by rw[List.length_map];exact tf)];rfl
  ·rfl
 ·rw[e1,e2];refine bj.split (by rw[List.getElem?_append_left (by unfold cz;rw[List.length_map];exact tf)];unfold cz;rw[List.getElem?_map,hi];rfl) (by rw[List.getElem?_append_right (by unfold cz;rw[List.length_map];exact Nat.le_refl _)];unfold cz;simp) ?_ h;cases hb:Nat.beq i H.length with
  | false=>rfl
  | true=>have:=nQ1 hb;omega
theorem cU.sl{α:Type}{P:Program}{E:Env}(hE:cL P E){R:aC}{ty:TypeId}{size:Nat}{enc:α->List Value}{l:List α}{oa:Option Addr}{c:Nat}(hk:∀a,(enc a).length=size)(kW:∃r,E.ty ty=some r/\r.info.size=size/\bQ r.bp=true)(h:∀w S,R.at_ w S->∃B,Sl enc w B (.slice oa l.length c) l)(hR:∃w S,R.at_ w S):cU P R ty size oa (fun a=>.agg (enc a).toArray) l:=fun aP=>by
 have nC:0<l.length:=List.length_pos_iff.2 aP;have key:∀w S,R.at_ w S->∃b off,oa=some ⟨b,off,none⟩/\ir w b off (l.flatMap enc):=fun w S hw=>by
  obtain ⟨B,A,cap,e,_,_,h3⟩:=h w S hw;injection e with e1 e2 e3;subst e1;obtain ⟨b,off,e,_,h4⟩:=h3 nC;exact ⟨b,off,e,h4⟩
 obtain ⟨w0,S0,h0⟩:=hR;obtain ⟨b0,QW,e0,_⟩:=key w0 S0 h0;refine ⟨_,e0,fun w S hw q hq=>?_⟩;obtain ⟨b,off,e,hl⟩:=key w S hw;rw[e0] at e;cases e
 obtain ⟨r,hr,hs,nA⟩:=kW;rw[Addr.add_mid];refine run_loadVar_mid w b0 (QW+q * size) ty (enc l[q]) r.bp (fun j u hj=>?_) (hE.bp ty r hr) (by unfold bQ at nA;split at nA<;>simp_all) ?_
 ·have KH:j<size:=by have:=de hj;rwa [hk] at this
  have h1:=xK hk hq hj;have h2:=hl (q * size+j) u h1;rw[<-Nat.add_assoc] at h2;exact h2
 ·rw[mO w (hE.info ty r hr)];simp[hs,hk]
theorem aN.aaw{E:Env}{t:aE}{H:List ai}{r:Row}{ty e:TypeId}{a:Operand}{p off d:Nat}{xs:List Value}{rr:dd}{u:Value}(FZ:r.o.op=.load ty a)(hx:aL t a=some (.ptr p off))(ho:H[p]?=some (.row xs e))(hl:Nat.ble H.length aY=true)(kW:E.ty ty=some rr)(nA:bQ rr.bp=false)(hu:xs[off]?=some u)(hd:r.o.dst=some d)(hv:t.get d=some (.lit u)):aN E t H r:=⟨by
 have hg:(hp H).heap.get p=some (.cells (xs.map .lit) e):=by rw[aZ (nB1 hl),ho];rfl
 refine ⟨.read (.lit u),?_,?_⟩
 ·rw[FZ];simp only[bK,hx,loadAt,hg,partOf,kW,nA];simp[hu]
 ·simp only[hd];exact hv⟩
theorem aN.j8{E:Env}{t:aE}{H:List ai}{r:Row}{α:Type}{enc:α->List Value}{k:Nat}{l:List α}{i j:Nat}{b:α}{ty e:TypeId}{a:Operand}{p off d:Nat}{rr:dd}{u:Value}(hk:∀a,(enc a).length=k)(h:l[i]?=some b)(FZ:r.o.op=.load ty a)(hx:aL t a=some (.ptr p off))(oT:off=0+i * k+j)(ho:H[p]?=some (.row (l.flatMap enc) e))(hl:Nat.ble H.length aY=true)(kW:E.ty ty=some rr)(nA:bQ rr.bp=false)(hu:(enc b)[j]?=some u)(hd:r.o.dst=some d)(hv:t.get d=some (.lit u)):aN E t H r:=
 aN.aaw FZ hx ho hl kW nA (by subst oT;rw[Nat.zero_add];exact xK hk (de h) (by rw[Ay h];exact hu)) hd hv
theorem aN.zu{E:Env}{t:aE}{H:List ai}{r:Row}{α:Type}{enc:α->List Value}{k:Nat}{l:List α}{i j:Nat}{b:α}{ty e:TypeId}{a:Operand}{p off d size:Nat}{rr:dd}{cs:List Value}(hk:∀a,(enc a).length=k)(h:l[i]?=some b)(FZ:r.o.op=.load ty a)(hx:aL t a=some (.ptr p off))(oT:off=0+i * k+j)(ho:H[p]?=some (.row (l.flatMap enc) e))(hl:Nat.ble H.length aY=true)(kW:E.ty ty=some rr)(nA:bQ rr.bp=true)(jD:rr.info.size=size)(hj:Nat.ble (j+size) k=true)(pR:((enc b).drop j).take size=cs)(hd:r.o.dst=some d)(hv:t.get d=some (.agg (cs.map .lit))):aN E t H r:=⟨by
 have hg:(hp H).heap.get p=some (.cells ((l.flatMap enc).map .lit) e):=by rw[aZ (nB1 hl),ho];rfl
 have xd:dL (l.flatMap enc) off size true (fun v=>v=.agg (cs.map .lit)):=dL.zu hk h oT hj pR rfl;obtain ⟨v,h1,rfl⟩:=xd.out;simp only[] at h1;refine ⟨.read (.agg (cs.map .lit)),?_,?_⟩
 ·rw[FZ];split at h1
  ·rename_i hle;simp only[bK,hx,loadAt,hg,partOf,kW,nA,jD];rw[show Nat.ble (off+size) ((l.flatMap enc).map AV.lit).length=true from Nat.ble_eq_true_of_le (by rw[List.length_map];exact hle)];simp only[Option.map_some];rw[Option.some.inj h1]
  ·cases h1
 ·simp only[hd];exact hv⟩
