/- Part of the proof: SyK. Conditions: as each states. -/
import Derived.Test.YtmbdghclhpboaaaGreatPw15
import Derived.Deep.MidRow
set_option linter.all false
namespace Go.Proofs.YtmbdghclhpboaaaGreat.Ev
open Go.RowKit
theorem jo:∀{L:List aH} {w:World} {S1 S2:Nat->Prop} {i:Nat} {r:aH},bw (L.set i aA) w S2->i<L.length->r.at_ w S1->(∀b,S1 b->S2 b->False)->bw (L.set i r) w (fun b=>S1 b\/S2 b)
 | [],_,_,_,_,_,_,h,_,_=>by simp at h
 | x::L,w,S1,S2,0,r,⟨A,B,h1,h2,_,hT⟩,_,h3,hd=>by
   refine ⟨S1,B,h3,h2,fun b x y=>hd b x ((hT b).2 (.inr y)),fun b=>?_⟩;show S1 b\/S2 b↔S1 b\/B b
   rw[hT b];exact ⟨fun h=>h.elim .inl (fun h=>h.elim (fun h=>absurd h (h1 b)) .inr),fun h=>h.elim .inl (fun h=>.inr (.inr h))⟩
 | x::L,w,S1,S2,i+1,r,⟨A,B,h1,h2,NI,hT⟩,hi,h3,hd=>by
   have h4:=jo h2 (by simpa using hi) h3 (fun b x y=>hd b x ((hT b).2 (.inr y)));refine ⟨A,fun b=>S1 b\/B b,h1,h4,fun b x y=>y.elim (fun y=>hd b y ((hT b).2 (.inl x))) (NI b x),fun b=>?_⟩;show S1 b\/S2 b↔A b\/(S1 b\/B b)
   rw[hT b];exact ⟨fun h=>h.elim (fun h=>.inr (.inl h)) (fun h=>h.elim .inl (fun h=>.inr (.inr h))),fun h=>h.elim (fun h=>.inr (.inl h)) (fun h=>h.elim .inl (fun h=>.inr (.inr h)))⟩
theorem aL.YD{F:di}{γ:aK}{σ:AS}{w w':World}{S:Nat->Prop}(h:aL F γ σ w)(c:VU S w w')(hS:∀b,S b->¬F.fz b/\∀o p,γ o=some (some p)->p.block≠b):aL F γ σ w':=
 ⟨⟨h.jv,fun o p hp=>let ⟨ob,h1,h2⟩:=h.obj o p hp;⟨ob,h1,h2.mono (.refl γ) (c.block _ (h.lt hp) fun hs=>(hS _ hs).2 o p hp rfl)⟩,h.gone,h.inj,h.aU⟩,h.live,
  ⟨c.os.trans h.frame.os,c.tape.trans h.frame.tape,c.output.trans h.frame.output,Nat.le_trans h.frame.size c.size,h.frame.fV,fun b hb=>(c.block b (Nat.lt_of_lt_of_le (h.frame.fV b hb) h.frame.size) fun hs=>(hS b hs).1 hb).trans (h.frame.block b hb),h.frame.own⟩⟩
theorem wj{H:List af}{i:Nat}{R R':aH}(hi:H[i]?=some (.res R)):hp (H.set i (.res R'))=hp H:=Jn (by
 apply List.ext_getElem?;intro j;rw[List.getElem?_map,List.getElem?_map,List.getElem?_set];split
 ·rename_i e;subst e;obtain ⟨hl,_⟩:=List.getElem?_eq_some_iff.1 hi;rw[if_pos hl,hi];rfl
 ·rfl)
theorem x9{F:di}{γ:aK}{H:List af}{w:World}{i:Nat}{R:aH}(hR:aL F γ (hp H) w)(cJ:Rs F γ H w)(hi:H[i]?=some (.res R)) :
  ∃S1,R.at_ w S1/\∀w' Qh R',R'.at_ w' Qh->(∀b,Qh b->S1 b\/w.heap.size<=b)->VU S1 w w'->aL F γ (hp (H.set i (.res R'))) w'/\Rs F γ (H.set i (.res R')) w':=by
 obtain ⟨T,hT,lY⟩:=cJ.out;have AW:(cC H)[i]?=some R:=by unfold cC;rw[List.getElem?_map,hi];rfl
 have r9:i<(cC H).length:=(List.getElem?_eq_some_iff.1 AW).1;obtain ⟨S1,S2,b1,b2,b3,b4⟩:=db hT AW;refine ⟨S1,b1,fun w' Qh R' k1 k2 k3=>?_⟩;have fg:∀b,S1 b->¬F.fz b/\∀o p,γ o=some (some p)->p.block≠b:=fun b hb=>lY b ((b4 b).2 (.inl hb));refine ⟨by rw[wj hi];exact hR.YD k3 fg,fun b=>Qh b\/S2 b,?_,fun b hb=>?_⟩
 ·have e:cC (H.set i (.res R'))=(cC H).set i R':=by unfold cC;rw[List.map_set];rfl
  rw[e];refine jo (il b2 fun b hb=>k3.block b (iJ b2 hb) fun hs=>b3 b hs hb) r9 k1 fun b x y=>?_;rcases k2 b x with x|x
  ·exact b3 b x y
  ·have:=iJ b2 y;omega
 ·rcases hb with hb|hb
  ·rcases k2 b hb with x|x
   ·exact fg b x
   ·refine ⟨fun hf=>?_,fun o p hp e=>?_⟩
    ·have:=hR.frame.fV b hf;have:=hR.frame.size;omega
    ·have:=hR.lt hp;omega
  ·exact lY b ((b4 b).2 (.inr hb))
theorem kN{P:Program}{t:TypeId}{i:TypeInfo}(w:World)(h:∀w,(typeInfo t).run P w=.ok i w):P.info? t=some i:=by
 have h:=h w;unfold typeInfo at h;cases hi:P.info? t with
 | none=>simp[hi] at h
 | some j=>simp[hi] at h;rw[h]
theorem append_empty{P:Program}(w:World)(t ty e:TypeId)(i:TypeInfo)(ht:P.underlying t=some (.slice e))(hi:P.info? e=some i)(a:Addr)(b:Option Addr)(m c:Nat)(hm:0<m)(gh:m * i.bytes<=2 ^ 48)(we:m<=maxLen) :
  (Builtin.append_ #[t,t] ty #[.slice (some a) 0 0,.slice b m c]).run P w=(Builtin.append_ #[t,t] ty #[.slice none 0 0,.slice b m c]).run P w:=by
 have hu:∀w:World,(underlying t).run P w=.ok (.slice e) w:=fun w=>run_underlying ht w;have hn:Builtin.nextslicecap (0+m) 0=m:=by unfold Builtin.nextslicecap;rw[if_pos (by omega)];omega
 have hs:∀w:World,(sizeOf e).run P w=.ok i.size w:=fun w=>by simp[sizeOf,typeInfo,hi]
 have AW:∀w:World,(typeInfo e).run P w=.ok i w:=fun w=>by simp[typeInfo,hi]
 have h1:¬(0+m<=0):=by omega
 have h2:¬(m * i.bytes>2 ^ 48):=by omega
 have h3:¬(((0+m:Nat):Int)>IntKind.i64.max/\(False\/i.bytes=0)):=fun h=>by
  have:=h.1;have e:IntKind.i64.max=9223372036854775807:=by decide
  rw[e] at this;unfold maxLen at we;omega
 have j6:loadCells a 0=pure #[]:=rfl;unfold Builtin.append_;simp only[Sem.run_bind,hu,hs,AW,Result.andThen_ok,Sem.run_pure,List.getElem?_toArray,List.getElem?_cons_zero,List.getElem?_cons_succ,Builtin.lenOf,if_neg h1,hn,if_neg h2,Builtin.firstCells,Nat.zero_mul,Bool.false_eq_true,if_false,if_neg h3,j6]
section
variable{P:Program}{E:Env}{S:List Nat}{t:ax}{H:List af}{K:AV->List af->Prop}
theorem eU.Nf(hE:ch P E){α:Type}{enc:α->List Value}{k:Nat}{ty elem:TypeId}(hA:jE E ty elem k)(hk:∀a,(enc a).length=k)(h0:0<k)(h1:∀a,∀u∈enc a,u.oneCell'=true){c:Call}{s x:Operand}{v:Value}{sv:AV}{l:List α}{ox cp:Nat}{ys:List AV}{ex:TypeId}{y:α}{i:Nat}{R R1:aH}{R':Value->aH}
  (hc:c={ callee:=.builtin .append,args:=#[s,x],argTypes:=#[ty,ty] }) (hs:aE t s=some sv) (U0:∀γ x,an γ sv x->x=v\/(v=.slice none 0 0/\∃a0,x=.slice (some a0) 0 0)) (hx:aE t x=some (.slice ox 0 1 (.k cp))) (LV:H[ox]?=some (.cells ys ex)) (hS:n8 S ox=false) (hl:mS ys=some (enc y)) (hi:H[i]?=some (.res R))
  (lM:∀w S,R.at_ w S->bw [aB enc k elem v l,R1] w S) (tK:∀v' w S,bw [aB enc k elem v' (l++[y]),R1] w S->(R' v').at_ w S) (hlen:l.length+1<=2147483648)
  (kk:∀A n,lS H i (.res (R' (.slice (some A) (l.length+1) n))) fun H'=>K (.lit (.slice (some A) (l.length+1) n)) H'):eU P S t H (.call c) K:=
 ⟨fun F γ w ρ hR cx cJ bD o ho=>by
  subst hc;obtain ⟨r,hr,hu⟩:=hA.ty;obtain ⟨er,z,he,qh,hz,tN,hb⟩:=hA.el;have q1:=bD s _ (by simp[Op.operands,Call.operands]) hs;have q2:=bD x _ (by simp[Op.operands,Call.operands]) hx;have q1:=U0 γ _ q1;simp only[an] at q2;obtain ⟨a,c,e2,dj,ZS,_⟩:=q2;have YP:ox∉S:=fun h=>by rw[tn.2 h] at hS;cases hS
  have Xn:=(List.getElem?_eq_some_iff.1 LV).1;have ah:H.length<=aU:=hR.aU;obtain ⟨p,hp,sh⟩:=hR.toRel.find (o:=ox) (ob:=.cells ys ex) (by rw[aT ah,LV];rfl) (by simp) (cx ox Xn YP);have dj:gz γ ox 0 a:=dj.resolve_left (by omega);unfold gz at dj;rw[hp] at dj;simp only[Nat.add_zero] at dj;obtain ⟨cc,g1,g2,g3,g4⟩:=sh;obtain ⟨S1,LG,AX⟩:=x9 hR cJ hi;obtain ⟨A,B,Ez,⟨B1,B2,LB,NJ,Uk,hB⟩,NI,fg⟩:=lM w S1 LG;have lO:Own enc k elem w 0 v l:=Ez.1;have rm:=nC hl;have rp:z.cells.size=k:=by
   have:=bp (eX (cN γ z));rw[tN] at this;simpa using this
  obtain ⟨g,cap,w',r1,r2,r3,r4,r5⟩:=run_append_lies (P:=P) w ty o.type 0 elem er.info z k er.info.bytes (by rw[hE.bg ty r hr,hu]) (kN w (hE.info elem er he)) hz qh rfl rp h0 v l.length _ lO a 1 c (enc y) (by rw[hk,Nat.one_mul]) (fun j u hj=>by
   have wb:ys[j]?=some (.lit u):=by rw[rm];simp[hj]
   obtain ⟨x',k1,k2⟩:=g4 j _ wb;rw[al] at k2;rw[dj];have e:(⟨p.block,p.base,none⟩:Addr).add j=⟨p.block,p.base+j,none⟩:=by unfold Addr.add;split<;>simp_all
   rw[e,cell_of_row w p.block (p.base+j) cc ex (0,0) g1,k1,k2]) (h1 y) (by omega) (by unfold maxLen;omega) (Nat.le_trans (Nat.mul_le_mul hlen hb) (by decide)) (Nat.zero_le _) _ rfl
  have qY:∀b,B b->b<w.heap.size/\some b≠v.ownBlock:=fun b hb=>by
   refine ⟨?_,fun e=>NI b ((Ez.2 b).2 e.symm) hb⟩;rcases (hB b).1 hb with h|h
   ·exact R1.lt LB h
   ·exact absurd h (NJ b)
  have dU:∀b,(Value.slice (some ⟨g,0,none⟩) (l.length+1) cap).ownBlock=some b↔b=g:=fun b=>by simp[Value.ownBlock,eq_comm]
  have NV:∀b,b=g->B b->False:=fun b e hb=>by
   subst e;have h5:=qY b hb;rcases r4 with h6|h6
   ·exact h5.2 h6.symm
   ·omega
  have mX:∀b,(b=g\/B b)->S1 b\/w.heap.size<=b:=fun b hb=>by
   rcases hb with rfl|hb
   ·rcases r4 with h6|h6
    ·exact .inl ((fg b).2 (.inl ((Ez.2 b).2 h6)))
    ·exact .inr (by omega)
   ·exact .inl ((fg b).2 (.inr hb))
  have lq:bw [aB enc k elem (.slice (some ⟨g,0,none⟩) (l.length+1) cap) (l++[y]),R1] w' (fun b=>b=g\/B b):=
   ⟨fun b=>b=g,B,⟨by
    have:=r2;unfold Own;rw[List.length_append,List.flatMap_append];simpa using this,fun b=>(dU b).symm⟩,⟨B1,B2,R1.lP LB fun b hb=>r3.block b (qY b ((hB b).2 (.inl hb))).1 (qY b ((hB b).2 (.inl hb))).2,NJ,Uk,hB⟩,NV,fun b=>Iff.rfl⟩
  obtain ⟨u1,u2⟩:=AX w' (fun b=>b=g\/B b) (R' (.slice (some ⟨g,0,none⟩) (l.length+1) cap)) (tK _ _ _ lq) mX ⟨r3.os,r3.tape,r3.output,r3.size,fun b hb hn=>r3.block b hb fun e=>hn ((fg b).2 (.inl ((Ez.2 b).2 e.symm)))⟩;have kV:=kk ⟨g,0,none⟩ cap;rw[ki] at kV;refine ⟨_,_,γ,.value (.slice (some ⟨g,0,none⟩) (l.length+1) cap),w',?_,.inl ⟨_,rfl,aM γ _⟩,kV,u1,?_,fun q hq=>cx q (by simpa using hq),u2⟩
  ·obtain ⟨dst,op,type,pos,after,guard⟩:=o;simp only[] at ho;subst ho;have r0:(Builtin.append_ #[ty,ty] type #[ρ s,.slice (some a) 1 c]).run P w=(Builtin.append_ #[ty,ty] type #[v,.slice (some a) 1 c]).run P w:=by
    rcases q1 with q1|⟨rfl,a0,q1⟩
    ·rw[q1]
    ·rw[q1];exact append_empty w ty type elem er.info (by rw[hE.bg ty r hr,hu]) (kN w (hE.info elem er he)) a0 _ 1 c (by decide) (Nat.le_trans (Nat.mul_le_mul (Nat.le_trans (Nat.le_add_left 1 _) hlen) hb) (by decide)) (by unfold maxLen;omega)
   rw[<-r0] at r1;simp only[execOp,resolve,invoke,builtin,Sem.run_bind,Sem.run_pure,Result.andThen_ok,List.map_toArray,List.map_cons,List.map_nil,e2,r1]
  ·rw[wj hi];exact .refl γ _⟩
theorem eU.k9(hE:ch P E){α:Type}{enc:α->List Value}{k:Nat}{ty elem:TypeId}(hA:jE E ty elem k)(hk:∀a,(enc a).length=k)(h0:0<k)(h1:∀a,∀u∈enc a,u.oneCell'=true){c:Call}{s x:Operand}{v:Value}{l:List α}{ox cp:Nat}{ys:List AV}{ex:TypeId}{y:α}{i:Nat}{R R1:aH}{R':Value->aH}
  (hc:c={ callee:=.builtin .append,args:=#[s,x],argTypes:=#[ty,ty] }) (hs:aE t s=some (.lit v)) (hx:aE t x=some (.slice ox 0 1 (.k cp))) (LV:H[ox]?=some (.cells ys ex)) (hS:n8 S ox=false) (hl:mS ys=some (enc y)) (hi:H[i]?=some (.res R))
  (lM:∀w S,R.at_ w S->bw [aB enc k elem v l,R1] w S) (tK:∀v' w S,bw [aB enc k elem v' (l++[y]),R1] w S->(R' v').at_ w S) (hlen:l.length+1<=2147483648)
  (kk:∀A n,lS H i (.res (R' (.slice (some A) (l.length+1) n))) fun H'=>K (.lit (.slice (some A) (l.length+1) n)) H'):eU P S t H (.call c) K:=
 .Nf hE hA hk h0 h1 hc hs (fun γ x h=>.inl (by rwa [al] at h)) hx LV hS hl hi lM tK hlen kk
theorem eU.Ng(hE:ch P E){α:Type}{enc:α->List Value}{k:Nat}{ty elem:TypeId}(hA:jE E ty elem k)(hk:∀a,(enc a).length=k)(h0:0<k)(h1:∀a,∀u∈enc a,u.oneCell'=true){c:Call}{s x:Operand}{ox cp:Nat}{ys:List AV}{ex:TypeId}{y:α}{i:Nat}{R R1:aH}{R':Value->aH}
  (hc:c={ callee:=.builtin .append,args:=#[s,x],argTypes:=#[ty,ty] }) {so sf:Nat} (hs:aE t s=some (.slice so sf 0 (.k 0))) (hx:aE t x=some (.slice ox 0 1 (.k cp))) (LV:H[ox]?=some (.cells ys ex)) (hS:n8 S ox=false) (hl:mS ys=some (enc y)) (hi:H[i]?=some (.res R))
  (lM:∀w S,R.at_ w S->bw [aB enc k elem (.slice none 0 0) ([]:List α),R1] w S) (tK:∀v' w S,bw [aB enc k elem v' [y],R1] w S->(R' v').at_ w S)
  (kk:∀A n,lS H i (.res (R' (.slice (some A) 1 n))) fun H'=>K (.lit (.slice (some A) 1 n)) H'):eU P S t H (.call c) K:=
 .Nf (v:=.slice none 0 0) (l:=[]) hE hA hk h0 h1 hc hs (fun γ x h=>let ⟨a,_,h1,_,_,h2⟩:=h;.inr ⟨rfl,a,by rw[h1];exact congrArg _ h2⟩) hx LV hS hl hi lM tK (by simp) kk
theorem ai.om{op:Op}(h:eU P S t H op K):ai E P true S t H op K:=⟨.inr ⟨rfl,h⟩⟩
theorem dP.om{c:Call}{ty:TypeId}{s x:AV}(h:eU P S t H (.call c) K):dP E P true S t c ty s x H K:=⟨.inr ⟨rfl,h⟩⟩
theorem ai.KZ{m:Bool}{ty e:TypeId}{a v':Operand}{p off size:Nat}{v:AV}{xs vs:List Value}{r:cZ}(ha:aE t a=some (.ptr p off))(hv:aE t v'=some v)(ho:H[p]?=some (.row xs e))(j7:E.ty ty=some r)(iW:r.info.size=size)(ET:mS v.cells=some vs)(hlen:Nat.beq vs.length size=true)(wi:v.cells.all AV.one=true)(nU:off+size<=xs.length)(hl:Nat.ble H.length aU=true)
  (k:lS H p (.row (setFrom xs off vs) e) fun H'=>K aP H'):ai E P m S t H (.store ty a v') K:=.ev (by
 have hl:=Nat.le_of_ble_eq_true hl;have ah:=(List.getElem?_eq_some_iff.1 ho).1;have hg:(hp H).heap.get p=some (.cells (xs.map .lit) e):=by rw[aT hl,ho];rfl
 rw[ki] at k;have Js:=nC ET;have hn:=Nat.eq_of_beq_eq_true hlen;have e1:setFrom (xs.map AV.lit) off v.cells=(setFrom xs off vs).map AV.lit:=by
  rw[Js];unfold setFrom;simp[List.map_take,List.map_drop]
 refine ⟨.act aP { hp H with heap:=(hp H).heap.put p (vw (.row (setFrom xs off vs) e)) },?_,_,pE (ob:=.row (setFrom xs off vs) e) hl ah,ji _,.of_eq (pP (ob:=.row (setFrom xs off vs) e) ho rfl).symm,k⟩;simp only[bz,ha,hv,wX,j7,hg,wi,Bool.and_true];rw[show Nat.beq v.cells.length r.info.size=true by rw[Js,List.length_map,hn,iW];exact Nat.beq_refl _,show Nat.ble (off+r.info.size) (xs.map AV.lit).length=true from Nat.ble_eq_true_of_le (by rw[iW,List.length_map];exact nU)];simp only[Bool.and_self,Option.map_some,e1,vw])
end
section
variable{α:Type}{enc:α->List Value}{k:Nat}(hk:∀a,(enc a).length=k)
include hk
theorem BN:∀(l:List α) (i:Nat) (x:α),i<l.length->setFrom (l.flatMap enc) (i * k) (enc x)=(l.set i x).flatMap enc
 | [],i,x,h=>absurd h (by simp)
 | a::l,0,x,_=>by
   unfold setFrom;simp only[Nat.zero_mul,List.take_zero,List.nil_append,Nat.zero_add,List.flatMap_cons,List.set_cons_zero,hk];rw[List.drop_append,List.drop_of_length_le (by rw[hk];exact Nat.le_refl _),hk,Nat.sub_self,List.drop_zero,List.nil_append]
 | a::l,i+1,x,h=>by
   have ih:=BN l i x (by simpa using h);unfold setFrom at ih ⊢;have e:(i+1) * k=k+i * k:=by rw[Nat.add_mul];omega
   rw[e,List.flatMap_cons,List.set_cons_succ,List.flatMap_cons,<-ih,List.take_append,List.take_of_length_le (by rw[hk];omega),hk,List.drop_append,List.drop_of_length_le (by rw[hk];omega),hk];rw[show k+i * k - k=i * k by omega,show k+i * k+k - (enc a).length=i * k+k by rw[hk];omega];simp[List.append_assoc]
theorem sI{l:List α}{i j:Nat}{u:Value}(hi:i<l.length)(hj:(enc l[i])[j]?=some u):(l.flatMap enc)[i * k+j]?=some u:=by
 have QH:=rS hk l i hi;have Jk:j<k:=by have:=(List.getElem?_eq_some_iff.1 hj).1;rwa [hk] at this
 rw[<-QH,List.getElem?_take,if_pos Jk,List.getElem?_drop] at hj;exact hj
end
section
variable{α:Type}{enc:α->List Value}{k:Nat}{l:List α}{i:Nat}{a:α}
theorem cM{α:Type}{l:List α}{i:Nat}{a:α}(h:l[i]?=some a):i<l.length:=(List.getElem?_eq_some_iff.1 h).1
theorem zA{α:Type}{l:List α}{i:Nat}{a:α}(h:l[i]?=some a):l[i]'(cM h)=a:=(List.getElem?_eq_some_iff.1 h).2
theorem jX{α:Type}{l:List α}{i:Nat}{a b:α}(h:l[i]?=some a):(l.set i b)[i]?=some b:=by rw[List.getElem?_set,if_pos rfl,if_pos (cM h)]
theorem df.jx{K:AV->Prop}{off j size:Nat}{u:Value}(hk:∀a,(enc a).length=k)(h:l[i]?=some a)(ho:off=0+i * k+j)(hj:(enc a)[j]?=some u)(q:K (.lit u)):df (l.flatMap enc) off size false K:=by
 subst ho;rw[Nat.zero_add];exact df.one u (sI hk (cM h) (by rw[zA h];exact hj)) q
theorem df.yw{K:AV->Prop}{off j size:Nat}{cs:List Value}(hk:∀a,(enc a).length=k)(h:l[i]?=some a)(ho:off=0+i * k+j)(hj:Nat.ble (j+size) k=true)(oE:((enc a).drop j).take size=cs)(q:K (.agg (cs.map .lit))):df (l.flatMap enc) off size true K:=by
 subst ho;have hj:=Nat.le_of_ble_eq_true hj;have hlen:=eL hk l;have hb:i * k+k<=l.length * k:=by
  have:=Nat.mul_le_mul_right k (cM h);rwa [Nat.succ_mul] at this
 refine df.agg cs (by omega) ?_ q;rw[<-oE,<-zA h,<-rS hk l i (cM h),Nat.zero_add];apply List.ext_getElem?;intro q;rw[List.getElem?_take,List.getElem?_take,List.getElem?_drop,List.getElem?_drop,List.getElem?_take,List.getElem?_drop];split
 ·rw[if_pos (by omega)];congr 1;omega
 ·rfl
end
theorem qF{α:Type}{xs vs:List α}{off:Nat}(h:off+vs.length<=xs.length)(q:Nat):(setFrom xs off vs)[q]?=if off<=q/\q<off+vs.length then vs[q - off]? else xs[q]?:=jB xs vs off q h
theorem My{α:Type}{enc:α->List Value}{k:Nat}(hk:∀a,(enc a).length=k){l:List α}{i j:Nat}{us:List Value}{a x:α}(h:l[i]?=some a)(hj:j+us.length<=k)(he:enc x=setFrom (enc a) j us):setFrom (l.flatMap enc) (i * k+j) us=(l.set i x).flatMap enc:=by
 have hlen:=eL hk l;have hb:i * k+k<=l.length * k:=by
  have:=Nat.mul_le_mul_right k (cM h);rwa [Nat.succ_mul] at this
 rw[<-BN hk l i x (cM h)];have QH:=rS hk l i (cM h);rw[zA h] at QH;apply List.ext_getElem?;intro q;rw[qF (by omega),qF (by rw[hk];omega),he];by_cases h1:i * k<=q/\q<i * k+k
 ·rw[if_pos (show i * k<=q/\q<i * k+(setFrom (enc a) j us).length by rw[gu _ _ _ (by rw[hk];exact hj),hk];exact h1),qF (by rw[hk];exact hj)];by_cases h2:i * k+j<=q/\q<i * k+j+us.length
  ·rw[if_pos h2,if_pos (by omega)];congr 1;omega
  ·rw[if_neg h2,if_neg (by omega),<-QH,List.getElem?_take,if_pos (by omega),List.getElem?_drop];congr 1;omega
 ·rw[if_neg (by omega),if_neg (show ¬(i * k<=q/\q<i * k+(setFrom (enc a) j us).length) by rw[gu _ _ _ (by rw[hk];exact hj),hk];exact h1)]
section
variable{P:Program}{E:Env}{S:List Nat}{t:ax}{H:List af}{K:AV->List af->Prop}
theorem ai.ny{α:Type}{enc:α->List Value}{k:Nat}{l:List α}{i j:Nat}{a x:α}{m:Bool}{ty e:TypeId}{ad v':Operand}{p off size:Nat}{v:AV}{vs:List Value}{r:cZ}(hk:∀a,(enc a).length=k)(h:l[i]?=some a)(ha:aE t ad=some (.ptr p off))(nU:off=0+i * k+j)(hv:aE t v'=some v)(ho:H[p]?=some (.row (l.flatMap enc) e))(j7:E.ty ty=some r)(iW:r.info.size=size)(ET:mS v.cells=some vs)(hlen:Nat.beq vs.length size=true)(wi:v.cells.all AV.one=true)(hj:Nat.ble (j+size) k=true)(hl:Nat.ble H.length aU=true)(he:enc x=setFrom (enc a) j vs)
  (q:lS H p (.row ((l.set i x).flatMap enc) e) fun H'=>K aP H'):ai E P m S t H (.store ty ad v') K:=by
 subst nU;have hj:=Nat.le_of_ble_eq_true hj;have hn:=Nat.eq_of_beq_eq_true hlen;have UI:=eL hk l;have hb:i * k+k<=l.length * k:=by
  have:=Nat.mul_le_mul_right k (cM h);rwa [Nat.succ_mul] at this
 refine ai.KZ ha hv ho j7 iW ET hlen wi (by omega) hl ?_;rw[Nat.zero_add,My hk h (by omega) he];exact q
end
theorem Rs.nZ{F:di}{γ:aK}{H:List af}{w:World}{i:Nat}{R:aH}{q:Prop}(h:Rs F γ H w)(hi:H[i]?=some (.res R))(hq:∀w S,R.at_ w S->q):q:=by
 obtain ⟨T,hT,_⟩:=h.out;obtain ⟨S1,_,b1,_⟩:=db (i:=i) (r:=R) hT (by unfold cC;rw[List.getElem?_map,hi];rfl);exact hq w S1 b1
theorem ag.nZ{P:Program}{S:List Nat}{f:Nat}{args:List AV}{H:List af}{K:AV->List af->Prop}{q:Prop}{R:aH}(i:Nat)(hi:H[i]?=some (.res R))(hq:∀w S,R.at_ w S->q)(c:q->ag P S f args H K):ag P S f args H K:=
 ⟨fun F γ w xs hR cx cJ gw=>(c (cJ.nZ hi hq)).out F γ w xs hR cx cJ gw⟩
theorem aJ.nZ{P:Program}{n k:Nat}{c:Code}{t:ax}{H:List af}{Q:fp->ax->List af->Prop}{q:Prop}{R:aH}(i:Nat)(hi:H[i]?=some (.res R))(hq:∀w S,R.at_ w S->q)(h:q->aJ P n k c t H Q):aJ P n k c t H Q:=
 ⟨fun F γ w a R' hR hT hQ=>(h (hR.rs.nZ hi hq)).out F γ w a R' hR hT hQ⟩
theorem bc.jn{R:aH}(h:∀w,R.at_ w fun _=>False)(L:List aH):bc L (L++[R]):=fun w T ht=>⟨T,fun _ h=>h,dX.2 ⟨T,fun _=>False,ht,⟨fun _=>False,fun _=>False,h w,fun _ h=>h,fun _ h _=>h,fun b=>by simp⟩,fun _ _ h=>h,fun b=>by simp⟩⟩
theorem bc.split{L:List aH}{i j:Nat}{R R1 R2:aH}(hi:L[i]?=some R)(hj:L[j]?=some aA)(o8:Nat.beq i j=false)(h:∀w S,R.at_ w S->bw [R2,R1] w S):bc L ((L.set i R1).set j R2):=fun w T hT=>by
 have o8:=Nat.ne_of_beq_eq_false o8;obtain ⟨S1,S2,h1,h2,h3,h4⟩:=db hT hi;obtain ⟨A,B,a1,⟨B1,B2,b1,b2,b3,b4⟩,a2,a3⟩:=h w S1 h1;have Uj:∀b,B b↔B1 b:=fun b=>(b4 b).trans ⟨fun h=>h.elim id (fun h=>absurd h (b2 b)),.inl⟩;have e1:=jo (i:=i) (r:=R1) h2 (cM hi) b1 (fun b x y=>h3 b ((a3 b).2 (.inr ((Uj b).2 x))) y);have hj':(L.set i R1)[j]?=some aA:=by rw[List.getElem?_set,if_neg o8];exact hj
 obtain ⟨C1,C2,c1,c2,c3,c4⟩:=db e1 hj';have e2:=jo (i:=j) (r:=R2) c2 (cM hj') a1 (fun b x y=>by
  rcases (c4 b).2 (.inr y) with h|h
  ·exact a2 b x ((Uj b).2 h)
  ·exact h3 b ((a3 b).2 (.inl x)) h)
 refine ⟨_,fun b hb=>?_,e2⟩;rcases hb with hb|hb
 ·exact (h4 b).2 (.inl ((a3 b).2 (.inl hb)))
 ·rcases (c4 b).2 (.inr hb) with h|h
  ·exact (h4 b).2 (.inl ((a3 b).2 (.inr ((Uj b).2 h))))
  ·exact (h4 b).2 (.inr h)
theorem aJ.part{P:Program}{n k:Nat}{c:Code}{t:ax}{H:List af}{Q:fp->ax->List af->Prop}{R:aH}(R1 R2:aH)(i:Nat)(hi:H[i]?=some (.res R))(h:∀w S,R.at_ w S->bw [R2,R1] w S)(hl:Nat.blt H.length aU=true)(q:aJ P n k c t (H.set i (.res R1)++[.res R2]) Q):aJ P n k c t H Q:=by
 have r9:=cM hi;have e1:cC (H++[af.res aA])=cC H++[aA]:=by unfold cC;rw[List.map_append];rfl
 have e2:cC (H.set i (.res R1)++[.res R2])=((cC H++[aA]).set i R1).set H.length R2:=by
  unfold cC;rw[List.map_append,List.map_set,List.set_append_left _ _ (by rw[List.length_map];exact r9),List.set_append_right _ _ (by rw[List.length_set,List.length_map];exact Nat.le_refl _),List.length_set,List.length_map,Nat.sub_self];rfl
 refine aJ.pre ((fP.more (R:=aA) hl (bc.BR _)).trans (fP.same (H2:=H.set i (.res R1)++[.res R2]) ?_ ?_)) q
 ·rw[List.map_append,List.map_append,List.map_set];congr 1;apply List.ext_getElem?;intro j;rw[List.getElem?_set];split
  ·rename_i e;subst e;rw[List.getElem?_map,hi,if_pos (by rw[List.length_map];exact r9)];rfl
  ·rfl
 ·rw[e1,e2];refine bc.split (by rw[List.getElem?_append_left (by unfold cC;rw[List.length_map];exact r9)];unfold cC;rw[List.getElem?_map,hi];rfl) (by rw[List.getElem?_append_right (by unfold cC;rw[List.length_map];exact Nat.le_refl _)];unfold cC;simp) ?_ h;cases hb:Nat.beq i H.length with
  | false=>rfl
  | true=>have:=Nat.eq_of_beq_eq_true hb;omega
theorem eG.sl{α:Type}{P:Program}{E:Env}(hE:ch P E){R:aH}{ty:TypeId}{size:Nat}{enc:α->List Value}{l:List α}{oa:Option Addr}{c:Nat}(hk:∀a,(enc a).length=size)(j7:∃r,E.ty ty=some r/\r.info.size=size/\bG r.bg=true)(h:∀w S,R.at_ w S->∃B,Sl enc w B (.slice oa l.length c) l)(hR:∃w S,R.at_ w S):eG P R ty size oa (fun a=>.agg (enc a).toArray) l:=fun aN=>by
 have nV:0<l.length:=List.length_pos_iff.2 aN;have key:∀w S,R.at_ w S->∃b off,oa=some ⟨b,off,none⟩/\gZ w b off (l.flatMap enc):=fun w S hw=>by
  obtain ⟨B,A,cap,e,_,_,h3⟩:=h w S hw;injection e with e1 e2 e3;subst e1;obtain ⟨b,off,e,_,h4⟩:=h3 nV;exact ⟨b,off,e,h4⟩
 obtain ⟨w0,S0,h0⟩:=hR;obtain ⟨b0,OK,e0,_⟩:=key w0 S0 h0;refine ⟨_,e0,fun w S hw q hq=>?_⟩;obtain ⟨b,off,e,hl⟩:=key w S hw;rw[e0] at e;cases e
 obtain ⟨r,hr,hs,lk⟩:=j7;rw[Addr.add_mid];refine run_loadVar_mid w b0 (OK+q * size) ty (enc l[q]) r.bg (fun j u hj=>?_) (hE.bg ty r hr) (by unfold bG at lk;split at lk<;>simp_all) ?_
 ·have Jk:j<size:=by have:=cM hj;rwa [hk] at this
  have h1:=sI hk hq hj;have h2:=hl (q * size+j) u h1;rw[<-Nat.add_assoc] at h2;exact h2
 ·rw[kN w (hE.info ty r hr)];simp[hs,hk]
theorem aG.XW{E:Env}{t:ax}{H:List af}{r:Row}{ty e:TypeId}{a:Operand}{p off d:Nat}{xs:List Value}{rr:cZ}{u:Value}(EO:r.o.op=.load ty a)(hx:aE t a=some (.ptr p off))(ho:H[p]?=some (.row xs e))(hl:Nat.ble H.length aU=true)(j7:E.ty ty=some rr)(lk:bG rr.bg=false)(hu:xs[off]?=some u)(hd:r.o.dst=some d)(hv:t.get d=some (.lit u)):aG E t H r:=⟨by
 have hg:(hp H).heap.get p=some (.cells (xs.map .lit) e):=by rw[aT (Nat.le_of_ble_eq_true hl),ho];rfl
 refine ⟨.read (.lit u),?_,?_⟩
 ·rw[EO];simp only[bz,hx,loadAt,hg,partOf,j7,lk];simp[hu]
 ·simp only[hd];exact hv⟩
theorem aG.jx{E:Env}{t:ax}{H:List af}{r:Row}{α:Type}{enc:α->List Value}{k:Nat}{l:List α}{i j:Nat}{b:α}{ty e:TypeId}{a:Operand}{p off d:Nat}{rr:cZ}{u:Value}(hk:∀a,(enc a).length=k)(h:l[i]?=some b)(EO:r.o.op=.load ty a)(hx:aE t a=some (.ptr p off))(nU:off=0+i * k+j)(ho:H[p]?=some (.row (l.flatMap enc) e))(hl:Nat.ble H.length aU=true)(j7:E.ty ty=some rr)(lk:bG rr.bg=false)(hu:(enc b)[j]?=some u)(hd:r.o.dst=some d)(hv:t.get d=some (.lit u)):aG E t H r:=
 aG.XW EO hx ho hl j7 lk (by subst nU;rw[Nat.zero_add];exact sI hk (cM h) (by rw[zA h];exact hu)) hd hv
theorem aG.yw{E:Env}{t:ax}{H:List af}{r:Row}{α:Type}{enc:α->List Value}{k:Nat}{l:List α}{i j:Nat}{b:α}{ty e:TypeId}{a:Operand}{p off d size:Nat}{rr:cZ}{cs:List Value}(hk:∀a,(enc a).length=k)(h:l[i]?=some b)(EO:r.o.op=.load ty a)(hx:aE t a=some (.ptr p off))(nU:off=0+i * k+j)(ho:H[p]?=some (.row (l.flatMap enc) e))(hl:Nat.ble H.length aU=true)(j7:E.ty ty=some rr)(lk:bG rr.bg=true)(iW:rr.info.size=size)(hj:Nat.ble (j+size) k=true)(oE:((enc b).drop j).take size=cs)(hd:r.o.dst=some d)(hv:t.get d=some (.agg (cs.map .lit))):aG E t H r:=⟨by
 have hg:(hp H).heap.get p=some (.cells ((l.flatMap enc).map .lit) e):=by rw[aT (Nat.le_of_ble_eq_true hl),ho];rfl
 have wm:df (l.flatMap enc) off size true (fun v=>v=.agg (cs.map .lit)):=df.yw hk h nU hj oE rfl;obtain ⟨v,h1,rfl⟩:=wm.out;simp only[] at h1;refine ⟨.read (.agg (cs.map .lit)),?_,?_⟩
 ·rw[EO];split at h1
  ·rename_i hle;simp only[bz,hx,loadAt,hg,partOf,j7,lk,iW];rw[show Nat.ble (off+size) ((l.flatMap enc).map AV.lit).length=true from Nat.ble_eq_true_of_le (by rw[List.length_map];exact hle)];simp only[Option.map_some];rw[Option.some.inj h1]
  ·cases h1
 ·simp only[hd];exact hv⟩
end Go.Proofs.YtmbdghclhpboaaaGreat.Ev
