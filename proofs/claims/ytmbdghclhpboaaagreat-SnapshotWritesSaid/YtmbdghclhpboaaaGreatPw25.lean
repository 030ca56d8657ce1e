/- Part of the proof: Pt. Conditions: as each states. -/
import Derived.Test.YtmbdghclhpboaaaGreatPw24
set_option linter.all false
set_option maxRecDepth 100000
namespace Go.Proofs.YtmbdghclhpboaaaGreat
open Ev
abbrev CF:TypeId:=331
abbrev BV:TypeId:=426
abbrev sQ:TypeId:=72
def pN(r:cw):List Value:=[iK r.id,iK r.x,iK r.y,iK r.label]
theorem sC(r:cw):(pN r).length=4:=rfl
def zh(n:PN):List Value:=[iK n.c.l,iK n.c.x,iK n.c.y,iK n.k0,iK n.k1,iK n.k2,iK n.k3,iK n.many,.bool n.split,n.v]
theorem bS(n:PN):(zh n).length=10:=rfl
theorem Kr:jE ev 329 BV 10:=⟨⟨_,rfl,rfl⟩,_,_,rfl,rfl,rfl,rfl,by decide⟩
theorem Ks:jE ev 24 sQ 4:=⟨⟨_,rfl,rfl⟩,_,_,rfl,rfl,rfl,rfl,by decide⟩
theorem sw:pj ev 328 3 (.agg [iA 0,iA 0,iA 0,iA 0]):=⟨_,_,_,_,rfl,rfl,rfl,rfl,rfl⟩
def lB(ns:List PN):List aH:=ns.map fun n=>aB pN 4 sQ n.v n.l
def dV(ns:List PN):aH:=aH.star (lB ns)
theorem og{ns:List PN}{i:Nat}{n:PN}(h:ns[i]?=some n):(lB ns)[i]?=some (aB pN 4 sQ n.v n.l):=by unfold lB;rw[List.getElem?_map,h];rfl
theorem vh{ns:List PN}{i:Nat}(m:PN):lB (ns.set i m)=(lB ns).set i (aB pN 4 sQ m.v m.l):=by unfold lB;rw[List.map_set]
theorem JN{ns:List PN}{i:Nat}{n m:PN}(h:ns[i]?=some n)(hv:m.v=n.v)(hl:m.l=n.l):dV (ns.set i m)=dV ns:=by
 unfold dV;rw[vh,hv,hl];congr 1;apply List.ext_getElem?;intro j;rw[List.getElem?_set];split
 ·rename_i e;subst e;rw[og h,if_pos (by unfold lB;rw[List.length_map];exact cM h)]
 ·rfl
theorem yL{ns:List PN}{i:Nat}{n:PN}(h:ns[i]?=some n)(w:World)(S:Nat->Prop)(hp:(dV ns).at_ w S):bw [aB pN 4 sQ n.v n.l,aH.star ((lB ns).set i aA)] w S:=by
 obtain ⟨S1,S2,h1,h2,h3,h4⟩:=db hp (og h);exact ⟨S1,S2,h1,⟨S2,fun _=>False,h2,fun _ h=>h,fun _ _ h=>h,fun b=>by simp⟩,h3,h4⟩
theorem JL{ns:List PN}{i:Nat}{n m:PN}(h:ns[i]?=some n)(w:World)(S:Nat->Prop)(hp:bw [aB pN 4 sQ m.v m.l,aH.star ((lB ns).set i aA)] w S):(dV (ns.set i m)).at_ w S:=by
 obtain ⟨S1,S2,h1,⟨T1,T2,k1,k2,_,k4⟩,h3,h4⟩:=hp;have e:∀b,T1 b↔S2 b:=fun b=>by rw[k4 b];exact ⟨.inl,fun h=>h.elim id (fun h=>absurd h (k2 b))⟩
 have:=jo (i:=i) (r:=aB pN 4 sQ m.v m.l) k1 (cM (og h)) h1 (fun b x y=>h3 b x ((e b).1 y));rw[<-vh] at this;exact vz this fun b=>by rw[h4 b,e b]
def X6(n:PN):Prop:=(n.v=aO/\n.l=[])\/∃a c,n.v=.slice (some a) n.l.length c
def Nd(ns:List PN):Prop:=∀(i:Nat) (n:PN),ns[i]?=some n->X6 n
theorem Nd.set{ns:List PN}{i:Nat}{m:PN}(h:Nd ns)(hm:X6 m):Nd (ns.set i m):=fun j n hn=>by
 rcases ou hn with ⟨_,rfl,_⟩|⟨_,hn⟩
 ·exact hm
 ·exact h j n hn
theorem Du{ns:List PN}(w:World)(S:Nat->Prop)(hp:(dV ns).at_ w S):Nd ns:=fun i n hn=>by
 obtain ⟨S1,S2,h1,_⟩:=yL hn w S hp;rcases h1.1.2 with ⟨e,h0⟩|⟨g,cap,cur,e,_⟩
 ·exact .inl ⟨e,List.eq_nil_of_length_eq_zero h0⟩
 ·exact .inr ⟨_,_,e⟩
theorem Bj{w:World}:(aB pN 4 sQ aO []).at_ w (fun _=>False):=⟨Own.nil,fun b=>by simp[aO,Value.ownBlock]⟩
theorem JM{ns:List PN}{i:Nat}{n m:PN}(h:ns[i]?=some n)(hv:m.v=aO)(hl:m.l=[])(w:World)(S:Nat->Prop)(hp:(dV ns).at_ w S):bw [aB pN 4 sQ n.v n.l,dV (ns.set i m)] w S:=by
 obtain ⟨S1,S2,h1,h2,h3,h4⟩:=db hp (og h);have:=jo (i:=i) (r:=aB pN 4 sQ m.v m.l) h2 (cM (og h)) (by rw[hv,hl];exact Bj) (fun _ h _=>h);rw[<-vh] at this;have h5:(dV (ns.set i m)).at_ w S2:=vz this fun b=>by simp
 exact ⟨S1,S2,h1,⟨S2,fun _=>False,h5,fun _ h=>h,fun _ _ h=>h,fun b=>by simp⟩,h3,h4⟩
theorem qA{ns:List PN}{c:bY}(w:World)(S:Nat->Prop)(hp:(dV ns).at_ w S):(dV (ns++[PN.leaf c])).at_ w S:=by
 show bw (lB (ns++[PN.leaf c])) w S
 unfold lB;rw[List.map_append];exact dX.2 ⟨S,fun _=>False,hp,⟨fun _=>False,fun _=>False,Bj,fun _ h=>h,fun _ h _=>h,fun b=>by simp⟩,fun _ _ h=>h,fun b=>by simp⟩
def En(ns:List PN):List PN:=ns.map PN.er
theorem eE{ns:List PN}{i:Nat}{n:PN}(h:ns[i]?=some n):(En ns)[i]?=some n.er:=by unfold En;rw[List.getElem?_map,h];rfl
theorem zM{ns:List PN}{i:Nat}{m:PN}(h:(En ns)[i]?=some m):∃n,ns[i]?=some n/\m=n.er:=by
 unfold En at h;rw[List.getElem?_map] at h;cases hn:ns[i]? with
 | none=>rw[hn] at h;cases h
 | some n=>rw[hn] at h;exact ⟨n,rfl,(Option.some.inj h).symm⟩
theorem mg{ns:List PN}{i:Nat}(m:PN):En (ns.set i m)=(En ns).set i m.er:=by unfold En;rw[List.map_set]
theorem Kk(ns:List PN):(En ns).length=ns.length:=by unfold En;rw[List.length_map]
inductive FQ where
 | nil
 | row (l:List Int) (Ou:List Value)
def FQ.fr:FQ->List Int
 | .nil=>[]
 | .row l _=>l
def FQ.v:FQ->AV
 | .nil=>.lit (.slice none 0 0)
 | .row l _=>.slice 4 0 l.length (.grown 1)
def FQ.o:FQ->af
 | .nil=>.res aA
 | .row l Ou=>.row (l.map iK++Ou) 3
def qC(bk:Int)(ns:List PN)(n:Nat)(bP:List (Int×cw))(q:FQ):List af:=[.cells [iA bk,.slice 1 0 n (.grown 10),q.v,.map 2] CF,.row (ns.flatMap zh) BV,.br (mE iK Bz bP),.res (dV ns),q.o]
theorem zE{bk:Int}{ns:List PN}{n:Nat}{B:List (Int×cw)}{c:bY}(hn:ns.length=n)(hb:n<=2000000000):CP [] 223 [.ptr 0 0,mV c] (qC bk ns n B .nil) (fun v H'=>v=iA n/\∃G1 G2 G3,H'=[.cells [iA bk,.slice 8 0 (n+1) (.grown 10),.lit (.slice none 0 0),.map 2] CF,.dead,.br (mE iK Bz B),.res (dV ns),.res aA,G1,G2,G3,.row ((ns++[PN.leaf c]).flatMap zh) BV]):=by
 refine ae U rfl ?_;repeat' ((conv=>whnf);first|with_reducible apply aa<;>intro _|refine aJ.drawn U rfl rfl ?_|with_reducible refine And.intro (aG.mk ⟨_,rfl,rfl⟩) ?_|refine dP.own Kr rfl rfl rfl rfl rfl rfl (by rw[eL bS,hn]) (by omega) ?_)
 all_goals (try conv=>whnf)
 rw[List.flatMap_append];exact ⟨congrArg iA (pV (by omega)),_,_,_,rfl⟩
theorem X8{x y:Int}(hx:0<=x)(hy:0<=y):IntKind.i64.wrap (x.tmod 2+IntKind.i64.wrap (y.tmod 2 * 2))=x % 2+y % 2 * 2:=by
 rw[Int.tmod_eq_emod_of_nonneg hx,Int.tmod_eq_emod_of_nonneg hy,aj (n:=y % 2 * 2) (by omega) (by omega)];exact aj (by omega) (by omega)
theorem Ns{b:Bool}{x y l:Int}(h:b=true->0<=x/\0<=y):0<=(if b=true then vf x y l else ⟨0,0,0⟩:bY).x/\0<=(if b=true then vf x y l else ⟨0,0,0⟩:bY).y:=by
 split
 ·rename_i hb;exact ⟨oW (h hb).1,oW (h hb).2⟩
 ·exact ⟨Int.le_refl _,Int.le_refl _⟩
theorem Ny{b:Bool}{x y:Int}(h:(b&&fits x y)=true):0<=x/\0<=y:=by
 simp only[Bool.and_eq_true] at h;have:=of_decide_eq_true h.2;omega
theorem Vu{bk:Int}{ns:List PN}{n i:Nat}{B:List (Int×cw)}{q:FQ}{r:cw}{nd:PN}(hn:ns.length=n)(hi:ns[i]?=some nd)(hr:nd.c.right=true):CP [] 319 [.ptr 0 0,iA i,.agg [iA r.x,iA r.y]] (qC bk ns n B q) (fun v H'=>v=iA (nd.yb r)/\∃G,H'=qC bk ns n B q++G):=by
 have r9:i<n:=by have:=cM hi;omega
 have hb:=bY.bd hr;have ew:IntKind.i64.wrap (nd.c.l+1)=nd.c.l+1:=aj (by omega) (by omega);have Xk:=Ns (b:=decide (0<=nd.c.l+1/\nd.c.l+1<=16)&&fits r.x r.y) (x:=r.x) (y:=r.y) (l:=nd.c.l+1) Ny;rcases q with _|⟨l,Ou⟩;all_goals
  refine ae U rfl ?_
  repeat' ((conv=>whnf);first|with_reducible apply aa<;>intro _|refine aJ.drawn U rfl rfl ?_|with_reducible refine And.intro (aG.mk ⟨_,rfl,rfl⟩) ?_|refine And.intro (aG.jx (j:=0) bS hi rfl rfl rfl rfl rfl rfl rfl rfl rfl rfl) ?_|refine aI.of (k:=i) rfl r9 ?_|refine df.jx (j:=0) bS hi rfl rfl ?_|(refine V7 (l:=IntKind.i64.wrap (nd.c.l+1)) ?_;rw[ew])|refine ai.rem rfl rfl rfl ?_)
  all_goals (try conv=>whnf)
  all_goals exact ⟨congrArg iA (X8 Xk.1 Xk.2),_,rfl⟩
def OQ(bk:Int)(ns:List PN)(n:Nat)(bP:List (Int×cw))(q:FQ):List af:=[.cells [iA bk,.slice 5 0 n (.grown 10),q.v,.map 2] CF,.dead,.br (mE iK Bz bP),.res (dV ns),q.o,.row (ns.flatMap zh) BV]
def zt(bk:Int)(B:List (Int×cw))(s:PS)(v:AV)(H:List af):Prop:=v=aP/\∃ns,En ns=s.ns/\s.fr=[]/\(H=qC bk ns ns.length B .nil\/H=OQ bk ns ns.length B .nil)
abbrev OH:Nat->Prop:=fun _=>False
def M5(bk f:Nat):Prop:=∀(ns:List PN) (n i:Nat) (nd:PN) (B:List (Int×cw)) (r:cw),ns.length=n->ns[i]?=some nd->nK bk OH ⟨En ns,[]⟩->1+gX nd<=f->1<=f->(n:Int)+4 * gX nd<=2000000000->hU (En ns)+1<=2000000000 ->
 CP [] 233 [.ptr 0 0,iA i,.agg (mF r)] (qC bk ns n B .nil) (zt bk B (gH bk f ⟨En ns,[]⟩ i r))
def M3(bk f:Nat):Prop:=∀(ns:List PN) (n i:Nat) (nd:PN) (B:List (Int×cw)),ns.length=n->ns[i]?=some nd->nK bk (·=i) ⟨En ns,[]⟩->nd.split=false->nd.c.l<16->nd.l.length<=bk+1->nd.l≠[]->16 - nd.c.l<=f->1<=f->(n:Int)+4 * (16 - nd.c.l)<=2000000000->hU (En ns)<=2000000000 ->
 CP [] 320 [.ptr 0 0,iA i] (qC bk ns n B .nil) (zt bk B (xP (gH bk f) ⟨En ns,[]⟩ i))
theorem Rc(nd:PN){k:Nat}(h:k<4):(zh nd)[3+k]?=some (iK (nd.rq k)):=by
 rcases (by omega:k=0\/k=1\/k=2\/k=3) with rfl|rfl|rfl|rfl<;>rfl
theorem Mp{bk f:Nat}(mQ:M3 bk f):M5 bk (f+1):=by
 intro ns n i JF B r hn hi hw hf _ hlen SV;have vY:=bY.bd (hw.cell i _ (eE hi));have WW:JF.er.c=JF.c:=rfl;rw[WW] at vY;obtain ⟨m,d1,d2,d3,d4,d5,d6,d7,d8⟩:=pK (r:=r) 17 hw (eE hi) (by simp) (by have:=(bY.bd (hw.cell i _ (eE hi))).1;omega);refine ag.use (args0:=[.ptr 0 0,iA i,.agg (mF r)]) (H0:=qC bk ns n B .nil) (K0:=fun v H'=>∃ks,D6 [0,1,2,3,4] ks (qC bk ns n B .nil) H' v (zt bk B (gH bk (f+1) ⟨En ns,[]⟩ i r))) ?_ [0,1,2,3,4] rfl rfl ⟨⟨_,rfl,rfl⟩,⟨_,rfl,rfl⟩,⟨_,rfl,rfl⟩,ko,ko,tU⟩ (fun v H' h=>h);refine ag.nZ 3 rfl Du fun U8=>?_;refine ae U rfl ?_;conv=>whnf
 refine aW U rfl (fun s:List PN×Nat×Nat=>[(0,.ptr 0 0),(1,iA s.2.1),(5,.ptr 5 0)]) (fun s=>qC bk s.1 n B .nil++[.cells (mF r) sQ]) (fun s=>s.1.length=n/\Nd s.1/\∃nd,s.1[s.2.1]?=some nd/\nK bk OH ⟨En s.1,[]⟩/\17 - nd.c.l<=s.2.2/\fC s.2.2 (En s.1) s.2.1 r=fC 17 (En ns) i r) (fun s=>s.2.2) (ns,i,17) ⟨hn,U8,JF,hi,hw,by show 17 - JF.c.l<=17;omega,rfl⟩ [0,1,2,3,4,5] ?_ ?_
 ·exact ⟨rfl,⟨rr,rr,rr,tU⟩,⟨⟨_,rfl,rfl⟩,⟨_,rfl,rfl⟩,⟨_,rfl,rfl⟩,ko,ko,⟨_,rfl,rfl⟩,tU⟩⟩
 ·rintro ⟨ms,j,g⟩ ⟨hm,Q7,nd,hj,N6,hg,hd⟩;simp only[] at hm Q7 hj N6 hg hd;have tK:j<n:=by have:=cM hj;omega
  have v8:=N6.cell j _ (eE hj);have mz:=bY.bd v8;obtain ⟨kw,Xc,Xa⟩:∃k:Nat,nd.yb r=(k:Int)/\k<4:=⟨(nd.yb r).toNat,by have:=mK nd r;omega,by have:=mK nd r;omega⟩;conv=>whnf
  refine aI.of (k:=j) rfl tK ?_;conv=>whnf
  refine df.jx (j:=8) bS hj rfl rfl ?_;conv=>whnf
  refine aa (fun hs=>?_) (fun hs=>?_)
  ·have si:dV (ms.set j { nd with many:=IntKind.i64.wrap (nd.many+1) })=dV ms:=JN hj rfl rfl;have hj':(ms.set j { nd with many:=IntKind.i64.wrap (nd.many+1) })[j]?=some { nd with many:=IntKind.i64.wrap (nd.many+1) }:=jX hj;repeat' ((conv=>whnf);first|with_reducible apply aa<;>intro _|refine aJ.drawn U rfl rfl ?_|with_reducible refine And.intro (aG.mk ⟨_,rfl,rfl⟩) ?_|refine aI.of (k:=j) rfl tK ?_|refine aI.of (k:=kw) Xc Xa ?_|refine df.jx (j:=7) bS hj rfl rfl ?_|refine ai.ny (j:=7) (x:={ nd with many:=IntKind.i64.wrap (nd.many+1) }) bS hj rfl rfl rfl rfl rfl rfl rfl rfl rfl rfl rfl rfl ?_|(refine (Vu (n:=n) (B:=B) (q:=.nil) (r:=r) (by simp[hm]) hj' v8).use [0,1,2,3,4] rfl rfl ⟨⟨_,rfl,rfl⟩,⟨_,rfl,rfl⟩,⟨_,rfl,rfl⟩,⟨_,rfl,fun _ _ h=>by rw[si];exact h⟩,ko,tU⟩ ?_;rintro _ _ ⟨rfl,G,rfl⟩;refine ⟨[],?_⟩)|refine df.jx (j:=3+kw) bS hj' (by omega) (Rc _ Xa) ?_)
   all_goals (try conv=>whnf)
   obtain ⟨k,x,h1,h2,h3,_⟩:=(N6.kids j _ (eE hj) hs).rq (nd.yb r) (mK nd r).1 (mK nd r).2;obtain ⟨g,rfl⟩:∃e,g=e+1:=⟨g - 1,by have:nd.er.c.l=nd.c.l:=rfl;omega⟩;obtain ⟨y,hy,rfl⟩:=zM h2;have ah:=(N6.kids j _ (eE hj) hs).lt;have uT:=qa v8 ah (mK nd r).1 (mK nd r).2;have Y8:k≠j:=fun e=>by
    rw[e,hj] at hy;cases hy
    rw[<-h3] at uT;omega
   have Vb:=N6.turn (m:={ nd.er with many:=IntKind.i64.wrap (nd.many+1) }) (eE hj) ⟨rfl,rfl,rfl,rfl,rfl,rfl⟩ (fun _ hh=>by rw[show nd.er.split=nd.split from rfl,hs] at hh;cases hh);have uU:fC (g+1) (En ms) j r=fC g (En (ms.set j { nd with many:=IntKind.i64.wrap (nd.many+1) })) k r:=by
    simp only[fC,eE hj,mg];rw[if_pos (show nd.er.split=true from hs),show nd.er.yb r=nd.yb r from rfl,h1,Int.toNat_natCast];rfl
   exact ⟨(ms.set j { nd with many:=IntKind.i64.wrap (nd.many+1) },k,g),[0,1,2,3,4,5],⟨⟨by simp[hm],Q7.set (Q7 j nd hj),y,by show (ms.set j _)[k]?=_;rw[List.getElem?_set,if_neg (Ne.symm Y8)];exact hy,by rw[mg];exact Vb,by
     have e1:y.c.l=nd.c.l+1:=by rw[show y.c=nd.c.child (nd.yb r) from h3];exact uT.2
     show 17 - y.c.l<=g
     omega,by rw[<-hd,uU]⟩,Nat.lt_succ_self g⟩,rfl,⟨rr,⟨rfl,aw rfl (by rw[<-Xc];exact h1)⟩,⟨rfl,rfl⟩,tU⟩,⟨⟨_,rfl,rfl⟩,⟨_,rfl,rfl⟩,⟨_,rfl,rfl⟩,ko,ko,⟨_,rfl,rfl⟩,tU⟩⟩
  ·have oF:∃e,g=e+1:=⟨g - 1,by have:nd.er.c.l=nd.c.l:=rfl;omega⟩;obtain ⟨g,rfl⟩:=oF;have uU:fC (g+1) (En ms) j r=(En ms,j):=by
    simp only[fC,eE hj];rw[if_neg (by rw[show nd.er.split=nd.split from rfl,hs];simp)]
   rw[uU] at hd;have dk:=pK (r:=r) 17 hw (eE hi) (by simp) (by have:=(bY.bd (hw.cell i _ (eE hi))).1;omega);simp only[<-hd] at d1 d2 d3 d4 d5 d6;have e1:=eE hj;rw[e1] at d1;cases d1
   have wq:=K9 (eE hj);have XA:=xm (r:=r) 17 (ns:=En ns) (i:=i);rw[<-hd] at XA;have ZP:nd.l.length<=hU (En ms):=wq;have ZO:hU (En ms)=hU (En ns):=XA;have LM:(ms.set j { nd with many:=IntKind.i64.wrap (nd.many+1) })[j]?=some { nd with many:=IntKind.i64.wrap (nd.many+1) }:=jX hj;have hjn':∀(v':Value) (w:World) (S:Nat->Prop),bw [aB pN 4 sQ v' (nd.l++[r]),aH.star ((lB ms).set j aA)] w S->(dV (ms.set j { nd with many:=IntKind.i64.wrap (nd.many+1),l:=nd.l++[r],v:=v' })).at_ w S:=fun v' w S h=>JL (m:={ nd with many:=IntKind.i64.wrap (nd.many+1),l:=nd.l++[r],v:=v' }) hj w S h;have SH:∀(v:Value),nd.v=v->∀w S,(dV ms).at_ w S->bw [aB pN 4 sQ v nd.l,aH.star ((lB ms).set j aA)] w S:=fun v e w S h=>by rw[<-e];exact yL hj w S h
   have Xm:∀(a:cw),∀u∈pN a,u.oneCell'=true:=fun a u hu=>by
    simp only[pN,List.mem_cons,List.not_mem_nil,or_false] at hu;rcases hu with rfl|rfl|rfl|rfl<;>rfl
   have Od:gH bk (f+1) ⟨En ns,[]⟩ i r=if bk<nd.l.length+1/\nd.c.l<16 then xP (gH bk f) ⟨(En ms).set j { nd.er with many:=IntKind.i64.wrap (nd.many+1),l:=nd.l++[r] },[]⟩ j else ⟨(En ms).set j { nd.er with many:=IntKind.i64.wrap (nd.many+1),l:=nd.l++[r] },[]⟩:=by
    simp only[gH,<-hd,e1];rfl
   rw[Od];have jd:16 - nd.c.l<=gX JF:=by
    have e3:nd.er.c=nd.c:=rfl;have e4:JF.er.split=JF.split:=rfl;rw[WW,e3] at d3 d4;rw[e4] at d4;unfold gX;split
    ·rename_i G7;have:=d4 G7;omega
    ·omega
   have w1:nK bk (·=j) (⟨En ms,[]⟩:PS):=⟨d5.cell,d5.kids,fun j q hq _ hs hl=>d5.I6 j q hq id hs hl,d5.free,d5.LA⟩;have w2:=w1.turn (m:={ nd.er with many:=IntKind.i64.wrap (nd.many+1),l:=nd.l++[r] }) e1 ⟨rfl,rfl,rfl,rfl,rfl,rfl⟩ (fun hx=>absurd rfl hx);have o9:(nd.l++[r]).length=nd.l.length+1:=by simp
   have GP:nd.c.l<16->nd.l.length<=bk:=fun h=>d5.I6 j nd.er e1 id d2 h;have WY:nd.er.l.length=nd.l.length:=rfl;have G9:∀X:PN,X.l.length=nd.l.length+1->hU ((En ms).set j X)<=2000000000:=fun X hX=>by have:=mJ X e1;rw[hX,WY] at this;omega
   rcases Q7 j nd hj with ⟨Jr,j6⟩|⟨A0,c0,Jr⟩
   ·repeat' ((conv=>whnf);first|with_reducible apply aa<;>intro _|refine aJ.drawn U rfl rfl ?_|with_reducible refine And.intro (aG.mk ⟨_,rfl,rfl⟩) ?_|refine aI.of (k:=j) rfl tK ?_|refine df.jx (j:=7) bS hj rfl rfl ?_|refine ai.ny (j:=7) (x:={ nd with many:=IntKind.i64.wrap (nd.many+1) }) bS hj rfl rfl rfl rfl rfl rfl rfl rfl rfl rfl rfl rfl ?_|refine df.jx (j:=9) (u:=aO) bS LM rfl (congrArg some Jr) ?_|refine And.intro (aG.jx (j:=9) (u:=aO) bS LM rfl rfl rfl rfl rfl rfl rfl (congrArg some Jr) rfl rfl) ?_|(refine dP.om (eU.k9 U Ks sC (by decide) Xm (i:=3) (y:=r) (l:=nd.l) (v:=aO) (R':=fun v'=>dV (ms.set j { nd with many:=IntKind.i64.wrap (nd.many+1),l:=nd.l++[r],v:=v' })) rfl rfl rfl rfl rfl rfl rfl (SH _ Jr) hjn' (by omega) ?_);intro A c))
    have wb:(ms.set j { nd with many:=IntKind.i64.wrap (nd.many+1),l:=nd.l++[r],v:=.slice (some A) (nd.l.length+1) c })[j]?=some { nd with many:=IntKind.i64.wrap (nd.many+1),l:=nd.l++[r],v:=.slice (some A) (nd.l.length+1) c }:=jX hj;repeat' ((conv=>whnf);first|with_reducible apply aa<;>intro _|refine aJ.drawn U rfl rfl ?_|with_reducible refine And.intro (aG.mk ⟨_,rfl,rfl⟩) ?_|(refine ai.ny (j:=9) (x:={ nd with many:=IntKind.i64.wrap (nd.many+1),l:=nd.l++[r],v:=.slice (some A) (nd.l.length+1) c }) bS LM rfl rfl rfl rfl rfl rfl rfl rfl rfl rfl rfl rfl ?_;rw[List.set_set])|refine df.jx (j:=9) (u:=.slice (some A) (nd.l.length+1) c) bS wb rfl rfl ?_|refine df.jx (j:=0) bS wb rfl rfl ?_|refine And.intro (aG.jx (j:=9) (u:=.slice (some A) (nd.l.length+1) c) bS wb rfl rfl rfl rfl rfl rfl rfl rfl rfl rfl) ?_|refine And.intro (aG.jx (j:=0) bS wb rfl rfl rfl rfl rfl rfl rfl rfl rfl rfl) ?_)
    all_goals (try conv=>whnf)
    ·rename_i h1 h2;have h1:=of_decide_eq_true h1;have h2:nd.c.l<16:=of_decide_eq_true h2;have hN:(ms.set j { nd with many:=IntKind.i64.wrap (nd.many+1),l:=nd.l++[r],v:=.slice (some A) (nd.l.length+1) c }).length=n:=by simp[hm]
     rw[if_pos (by omega)];refine (mQ _ n j { nd with many:=IntKind.i64.wrap (nd.many+1),l:=nd.l++[r],v:=.slice (some A) (nd.l.length+1) c } B hN wb (by rw[mg];exact w2) d2 h2 (by show (nd.l++[r]).length<=bk+1;have:=GP h2;omega) (by show nd.l++[r]≠[];simp) (by show 16 - nd.c.l<=f;omega) (by omega) (by show (n:Int)+4 * (16 - nd.c.l)<=2000000000;omega) (by rw[mg];exact G9 _ o9)).use [0,1,2,3,4] rfl rfl ⟨⟨_,rfl,rfl⟩,⟨_,rfl,rfl⟩,⟨_,rfl,rfl⟩,ko,ko,tU⟩ ?_;rw[mg];rintro _ _ ⟨rfl,kZ,e5,e6,rfl|rfl⟩
     ·refine ⟨[],?_⟩;conv=>whnf
      refine ⟨[],?_⟩;conv=>whnf
      exact ⟨rfl,kZ,e5,e6,.inl rfl⟩
     ·refine ⟨[5],?_⟩;conv=>whnf
      refine ⟨[7],?_⟩;conv=>whnf
      exact ⟨rfl,kZ,e5,e6,.inr rfl⟩
    all_goals
     rw[if_neg (fun hc=>by simp_all<;>omega)]
     refine ⟨[],?_⟩
     conv=>whnf
     exact ⟨rfl,ms.set j { nd with many:=IntKind.i64.wrap (nd.many+1),l:=nd.l++[r],v:=.slice (some A) (nd.l.length+1) c },mg _,rfl,.inl (by rw[show (ms.set j { nd with many:=IntKind.i64.wrap (nd.many+1),l:=nd.l++[r],v:=.slice (some A) (nd.l.length+1) c }).length=n by simp[hm]];rfl)⟩
   ·repeat' ((conv=>whnf);first|with_reducible apply aa<;>intro _|refine aJ.drawn U rfl rfl ?_|with_reducible refine And.intro (aG.mk ⟨_,rfl,rfl⟩) ?_|refine aI.of (k:=j) rfl tK ?_|refine df.jx (j:=7) bS hj rfl rfl ?_|refine ai.ny (j:=7) (x:={ nd with many:=IntKind.i64.wrap (nd.many+1) }) bS hj rfl rfl rfl rfl rfl rfl rfl rfl rfl rfl rfl rfl ?_|refine df.jx (j:=9) (u:=.slice (some A0) nd.l.length c0) bS LM rfl (congrArg some Jr) ?_|refine And.intro (aG.jx (j:=9) (u:=.slice (some A0) nd.l.length c0) bS LM rfl rfl rfl rfl rfl rfl rfl (congrArg some Jr) rfl rfl) ?_|(refine ai.om (eU.k9 U Ks sC (by decide) Xm (i:=3) (y:=r) (l:=nd.l) (v:=.slice (some A0) nd.l.length c0) (R':=fun v'=>dV (ms.set j { nd with many:=IntKind.i64.wrap (nd.many+1),l:=nd.l++[r],v:=v' })) rfl rfl rfl rfl rfl rfl rfl (SH _ Jr) hjn' (by omega) ?_);intro A c))
    have wb:(ms.set j { nd with many:=IntKind.i64.wrap (nd.many+1),l:=nd.l++[r],v:=.slice (some A) (nd.l.length+1) c })[j]?=some { nd with many:=IntKind.i64.wrap (nd.many+1),l:=nd.l++[r],v:=.slice (some A) (nd.l.length+1) c }:=jX hj;repeat' ((conv=>whnf);first|with_reducible apply aa<;>intro _|refine aJ.drawn U rfl rfl ?_|with_reducible refine And.intro (aG.mk ⟨_,rfl,rfl⟩) ?_|(refine ai.ny (j:=9) (x:={ nd with many:=IntKind.i64.wrap (nd.many+1),l:=nd.l++[r],v:=.slice (some A) (nd.l.length+1) c }) bS LM rfl rfl rfl rfl rfl rfl rfl rfl rfl rfl rfl rfl ?_;rw[List.set_set])|refine df.jx (j:=9) (u:=.slice (some A) (nd.l.length+1) c) bS wb rfl rfl ?_|refine df.jx (j:=0) bS wb rfl rfl ?_|refine And.intro (aG.jx (j:=9) (u:=.slice (some A) (nd.l.length+1) c) bS wb rfl rfl rfl rfl rfl rfl rfl rfl rfl rfl) ?_|refine And.intro (aG.jx (j:=0) bS wb rfl rfl rfl rfl rfl rfl rfl rfl rfl rfl) ?_)
    all_goals (try conv=>whnf)
    ·rename_i h1 h2;have h1:=of_decide_eq_true h1;have h2:nd.c.l<16:=of_decide_eq_true h2;have hN:(ms.set j { nd with many:=IntKind.i64.wrap (nd.many+1),l:=nd.l++[r],v:=.slice (some A) (nd.l.length+1) c }).length=n:=by simp[hm]
     rw[if_pos (by omega)];refine (mQ _ n j { nd with many:=IntKind.i64.wrap (nd.many+1),l:=nd.l++[r],v:=.slice (some A) (nd.l.length+1) c } B hN wb (by rw[mg];exact w2) d2 h2 (by show (nd.l++[r]).length<=bk+1;have:=GP h2;omega) (by show nd.l++[r]≠[];simp) (by show 16 - nd.c.l<=f;omega) (by omega) (by show (n:Int)+4 * (16 - nd.c.l)<=2000000000;omega) (by rw[mg];exact G9 _ o9)).use [0,1,2,3,4] rfl rfl ⟨⟨_,rfl,rfl⟩,⟨_,rfl,rfl⟩,⟨_,rfl,rfl⟩,ko,ko,tU⟩ ?_;rw[mg];rintro _ _ ⟨rfl,kZ,e5,e6,rfl|rfl⟩
     ·refine ⟨[],?_⟩;conv=>whnf
      refine ⟨[],?_⟩;conv=>whnf
      exact ⟨rfl,kZ,e5,e6,.inl rfl⟩
     ·refine ⟨[5],?_⟩;conv=>whnf
      refine ⟨[7],?_⟩;conv=>whnf
      exact ⟨rfl,kZ,e5,e6,.inr rfl⟩
    all_goals
     rw[if_neg (fun hc=>by simp_all<;>omega)]
     refine ⟨[],?_⟩
     conv=>whnf
     exact ⟨rfl,ms.set j { nd with many:=IntKind.i64.wrap (nd.many+1),l:=nd.l++[r],v:=.slice (some A) (nd.l.length+1) c },mg _,rfl,.inl (by rw[show (ms.set j { nd with many:=IntKind.i64.wrap (nd.many+1),l:=nd.l++[r],v:=.slice (some A) (nd.l.length+1) c }).length=n by simp[hm]];rfl)⟩
theorem JJ{bk f:Nat}(Od:M5 bk f):M3 bk f:=by
 intro ns n i nd B hn hi hw hs hl hk aN hf EH hlen SV;have v8:nd.c.right=true:=hw.cell i nd.er (eE hi);have mz:=bY.bd v8;have im:i<n:=by have:=cM hi;omega
 have kz:∀j:Int,0<=j->j<=3->(nd.c.right&&decide (nd.c.l≠16/\0<=j/\j<=3))=true:=fun j h0 h3=>by rw[v8,decide_eq_true ⟨by omega,h0,h3⟩];rfl
 refine ag.use (args0:=[.ptr 0 0,iA i]) (H0:=qC bk ns n B .nil) (K0:=fun v H'=>∃ks,D6 [0,1,2,3,4] ks (qC bk ns n B .nil) H' v (zt bk B (xP (gH bk f) ⟨En ns,[]⟩ i))) ?_ [0,1,2,3,4] rfl rfl ⟨⟨_,rfl,rfl⟩,⟨_,rfl,rfl⟩,⟨_,rfl,rfl⟩,ko,ko,tU⟩ (fun v H' h=>h);refine ag.nZ 3 rfl Du fun U8=>?_;obtain ⟨A,c0,hv⟩:∃a c,nd.v=.slice (some a) nd.l.length c:=(U8 i nd hi).resolve_left fun h=>aN h.2;refine ae U rfl ?_;repeat' ((conv=>whnf);first|with_reducible apply aa<;>intro _|refine aJ.drawn U rfl rfl ?_|with_reducible refine And.intro (aG.mk ⟨_,rfl,rfl⟩) ?_|refine aI.of (k:=i) rfl im ?_|refine df.jx (j:=9) (u:=.slice (some A) nd.l.length c0) bS hi rfl (congrArg some hv) ?_|refine df.yw (j:=0) bS hi rfl rfl rfl ?_|refine And.intro (aG.jx (j:=9) (u:=.slice (some A) nd.l.length c0) bS hi rfl rfl rfl rfl rfl rfl rfl (congrArg some hv) rfl rfl) ?_|refine And.intro (aG.yw (j:=0) bS hi rfl rfl rfl rfl rfl rfl rfl rfl rfl rfl rfl rfl) ?_)
 all_goals (try conv=>whnf)
 refine bL.loop 5 ?_;refine bL.step U rfl ?_;repeat' ((conv=>whnf);first|with_reducible apply aa<;>intro _|refine aJ.drawn U rfl rfl ?_|with_reducible refine And.intro (aG.mk ⟨_,rfl,rfl⟩) ?_|(refine oL (i:=0) ?_;rw[kz 0 (by omega) (by omega)])|(refine (zE (ns:=ns) (n:=n+0) (B:=B) (c:=nd.c.child 0) (by simp[hn]) (by omega)).use [0,1,2,3,4] rfl rfl ⟨⟨_,rfl,rfl⟩,⟨_,rfl,rfl⟩,⟨_,rfl,rfl⟩,ko,ko,tU⟩ ?_;rintro _ _ ⟨rfl,G1,G2,G3,rfl⟩;refine ⟨[8],?_⟩)|refine aI.of (k:=0) rfl (by omega) ?_)
 all_goals (try conv=>whnf)
 refine bL.sub [0,1,2,3,4,5,6,8] (l:=[(0,.ptr 0 0),(1,iA i),(4,.lit (.slice (some A) nd.l.length c0)),(5,.ptr 5 0),(6,.ptr 6 0),(29,iA 1)]) (H0:=[.cells [iA bk,.slice 7 0 (n+1) (.grown 10),.lit (.slice none 0 0),.map 2] CF,.dead,.br (mE iK Bz B),.res (dV ns),.res aA,.cells [iA nd.c.l,iA nd.c.x,iA nd.c.y] 232,.cells [iA (n:Nat),iA 0,iA 0,iA 0] 424,.row ((ns++[PN.leaf (nd.c.child 0)]).flatMap zh) BV]) ⟨rfl,⟨rr,rr,rr,rr,rr,⟨rfl,aw rfl (by decide)⟩,tU⟩,⟨⟨_,rfl,rfl⟩,⟨_,rfl,rfl⟩,⟨_,rfl,rfl⟩,ko,ko,⟨_,rfl,rfl⟩,⟨_,rfl,rfl⟩,⟨_,rfl,rfl⟩,tU⟩⟩ ?_;refine bL.step U rfl ?_;repeat' ((conv=>whnf);first|with_reducible apply aa<;>intro _|refine aJ.drawn U rfl rfl ?_|with_reducible refine And.intro (aG.mk ⟨_,rfl,rfl⟩) ?_|(refine oL (i:=1) ?_;rw[kz 1 (by omega) (by omega)])|(refine (zE (ns:=(ns++[PN.leaf (nd.c.child 0)])) (n:=n+1) (B:=B) (c:=nd.c.child 1) (by simp[hn]) (by omega)).use [0,7,2,3,4] rfl rfl ⟨⟨_,rfl,rfl⟩,⟨_,rfl,rfl⟩,⟨_,rfl,rfl⟩,⟨_,rfl,fun w S h=>qA w S h⟩,ko,tU⟩ ?_;rintro _ _ ⟨rfl,G1,G2,G3,rfl⟩;refine ⟨[8],?_⟩)|refine aI.of (k:=1) rfl (by omega) ?_)
 all_goals (try conv=>whnf)
 refine bL.sub [0,1,2,3,4,5,6,9] (l:=[(0,.ptr 0 0),(1,iA i),(4,.lit (.slice (some A) nd.l.length c0)),(5,.ptr 5 0),(6,.ptr 6 0),(29,iA 2)]) (H0:=[.cells [iA bk,.slice 7 0 (n+2) (.grown 10),.lit (.slice none 0 0),.map 2] CF,.dead,.br (mE iK Bz B),.res (dV (ns++[PN.leaf (nd.c.child 0)])),.res aA,.cells [iA nd.c.l,iA nd.c.x,iA nd.c.y] 232,.cells [iA (n:Nat),iA ((n+1:Nat):Int),iA 0,iA 0] 424,.row (((ns++[PN.leaf (nd.c.child 0)])++[PN.leaf (nd.c.child 1)]).flatMap zh) BV]) ⟨rfl,⟨rr,rr,rr,rr,rr,⟨rfl,aw rfl (by decide)⟩,tU⟩,⟨⟨_,rfl,rfl⟩,⟨_,rfl,rfl⟩,⟨_,rfl,rfl⟩,ko,ko,⟨_,rfl,rfl⟩,⟨_,rfl,rfl⟩,⟨_,rfl,rfl⟩,tU⟩⟩ ?_;refine bL.step U rfl ?_;repeat' ((conv=>whnf);first|with_reducible apply aa<;>intro _|refine aJ.drawn U rfl rfl ?_|with_reducible refine And.intro (aG.mk ⟨_,rfl,rfl⟩) ?_|(refine oL (i:=2) ?_;rw[kz 2 (by omega) (by omega)])|(refine (zE (ns:=((ns++[PN.leaf (nd.c.child 0)])++[PN.leaf (nd.c.child 1)])) (n:=n+2) (B:=B) (c:=nd.c.child 2) (by simp[hn]) (by omega)).use [0,7,2,3,4] rfl rfl ⟨⟨_,rfl,rfl⟩,⟨_,rfl,rfl⟩,⟨_,rfl,rfl⟩,⟨_,rfl,fun w S h=>qA w S h⟩,ko,tU⟩ ?_;rintro _ _ ⟨rfl,G1,G2,G3,rfl⟩;refine ⟨[8],?_⟩)|refine aI.of (k:=2) rfl (by omega) ?_)
 all_goals (try conv=>whnf)
 refine bL.sub [0,1,2,3,4,5,6,9] (l:=[(0,.ptr 0 0),(1,iA i),(4,.lit (.slice (some A) nd.l.length c0)),(5,.ptr 5 0),(6,.ptr 6 0),(29,iA 3)]) (H0:=[.cells [iA bk,.slice 7 0 (n+3) (.grown 10),.lit (.slice none 0 0),.map 2] CF,.dead,.br (mE iK Bz B),.res (dV ((ns++[PN.leaf (nd.c.child 0)])++[PN.leaf (nd.c.child 1)])),.res aA,.cells [iA nd.c.l,iA nd.c.x,iA nd.c.y] 232,.cells [iA (n:Nat),iA ((n+1:Nat):Int),iA ((n+2:Nat):Int),iA 0] 424,.row ((((ns++[PN.leaf (nd.c.child 0)])++[PN.leaf (nd.c.child 1)])++[PN.leaf (nd.c.child 2)]).flatMap zh) BV]) ⟨rfl,⟨rr,rr,rr,rr,rr,⟨rfl,aw rfl (by decide)⟩,tU⟩,⟨⟨_,rfl,rfl⟩,⟨_,rfl,rfl⟩,⟨_,rfl,rfl⟩,ko,ko,⟨_,rfl,rfl⟩,⟨_,rfl,rfl⟩,⟨_,rfl,rfl⟩,tU⟩⟩ ?_;refine bL.step U rfl ?_;repeat' ((conv=>whnf);first|with_reducible apply aa<;>intro _|refine aJ.drawn U rfl rfl ?_|with_reducible refine And.intro (aG.mk ⟨_,rfl,rfl⟩) ?_|(refine oL (i:=3) ?_;rw[kz 3 (by omega) (by omega)])|(refine (zE (ns:=(((ns++[PN.leaf (nd.c.child 0)])++[PN.leaf (nd.c.child 1)])++[PN.leaf (nd.c.child 2)])) (n:=n+3) (B:=B) (c:=nd.c.child 3) (by simp[hn]) (by omega)).use [0,7,2,3,4] rfl rfl ⟨⟨_,rfl,rfl⟩,⟨_,rfl,rfl⟩,⟨_,rfl,rfl⟩,⟨_,rfl,fun w S h=>qA w S h⟩,ko,tU⟩ ?_;rintro _ _ ⟨rfl,G1,G2,G3,rfl⟩;refine ⟨[8],?_⟩)|refine aI.of (k:=3) rfl (by omega) ?_)
 all_goals (try conv=>whnf)
 refine bL.sub [0,1,2,3,4,5,6,9] (l:=[(0,.ptr 0 0),(1,iA i),(4,.lit (.slice (some A) nd.l.length c0)),(5,.ptr 5 0),(6,.ptr 6 0),(29,iA 4)]) (H0:=[.cells [iA bk,.slice 7 0 (n+4) (.grown 10),.lit (.slice none 0 0),.map 2] CF,.dead,.br (mE iK Bz B),.res (dV (((ns++[PN.leaf (nd.c.child 0)])++[PN.leaf (nd.c.child 1)])++[PN.leaf (nd.c.child 2)])),.res aA,.cells [iA nd.c.l,iA nd.c.x,iA nd.c.y] 232,.cells [iA (n:Nat),iA ((n+1:Nat):Int),iA ((n+2:Nat):Int),iA ((n+3:Nat):Int)] 424,.row (((((ns++[PN.leaf (nd.c.child 0)])++[PN.leaf (nd.c.child 1)])++[PN.leaf (nd.c.child 2)])++[PN.leaf (nd.c.child 3)]).flatMap zh) BV]) ⟨rfl,⟨rr,rr,rr,rr,rr,⟨rfl,aw rfl (by decide)⟩,tU⟩,⟨⟨_,rfl,rfl⟩,⟨_,rfl,rfl⟩,⟨_,rfl,rfl⟩,ko,ko,⟨_,rfl,rfl⟩,⟨_,rfl,rfl⟩,⟨_,rfl,rfl⟩,tU⟩⟩ ?_;have Jh:((((ns++[PN.leaf (nd.c.child 0)])++[PN.leaf (nd.c.child 1)])++[PN.leaf (nd.c.child 2)])++[PN.leaf (nd.c.child 3)])[i]?=some nd:=by
  rw[List.append_assoc,List.append_assoc,List.append_assoc,List.getElem?_append_left (cM hi)];exact hi
 obtain ⟨ms,tM⟩:∃ms,ms=((((ns++[PN.leaf (nd.c.child 0)])++[PN.leaf (nd.c.child 1)])++[PN.leaf (nd.c.child 2)])++[PN.leaf (nd.c.child 3)]):=⟨_,rfl⟩;have cx:∀w S,(dV (((ns++[PN.leaf (nd.c.child 0)])++[PN.leaf (nd.c.child 1)])++[PN.leaf (nd.c.child 2)])).at_ w S->(dV ms).at_ w S:=fun w S h=>by rw[tM];exact qA w S h
 rw[<-tM] at Jh ⊢;have h1:(ms.set i { nd with v:=aO })[i]?=some { nd with v:=aO }:=jX Jh;have h2:(ms.set i { nd with v:=aO,split:=true })[i]?=some { nd with v:=aO,split:=true }:=jX Jh;have h3:(ms.set i { nd with v:=aO,split:=true,k0:=(n:Nat),k1:=((n+1:Nat):Int),k2:=((n+2:Nat):Int),k3:=((n+3:Nat):Int) })[i]?=some { nd with v:=aO,split:=true,k0:=(n:Nat),k1:=((n+1:Nat):Int),k2:=((n+2:Nat):Int),k3:=((n+3:Nat):Int) }:=jX Jh;have sc:ms.length=n+4:=by rw[tM];simp[hn]
 refine bL.step U rfl ?_;repeat' ((conv=>whnf);first|with_reducible apply aa<;>intro _|refine aJ.drawn U rfl rfl ?_|with_reducible refine And.intro (aG.mk ⟨_,rfl,rfl⟩) ?_|refine aI.of (k:=i) rfl (show i<n+4 by omega) ?_|(refine ai.ny (j:=9) (x:={ nd with v:=aO }) bS Jh rfl rfl rfl rfl rfl rfl rfl rfl rfl rfl rfl rfl ?_)|(refine ai.ny (j:=8) (x:={ nd with v:=aO,split:=true }) bS h1 rfl rfl rfl rfl rfl rfl rfl rfl rfl rfl rfl rfl ?_;rw[List.set_set])|(refine ai.ny (j:=3) (x:={ nd with v:=aO,split:=true,k0:=(n:Nat),k1:=((n+1:Nat):Int),k2:=((n+2:Nat):Int),k3:=((n+3:Nat):Int) }) bS h2 rfl rfl rfl rfl rfl rfl rfl rfl rfl rfl rfl rfl ?_;rw[List.set_set])|(refine ai.ny (j:=7) (x:={ nd with v:=aO,split:=true,k0:=(n:Nat),k1:=((n+1:Nat):Int),k2:=((n+2:Nat):Int),k3:=((n+3:Nat):Int),many:=0,l:=[] }) bS h3 rfl rfl rfl rfl rfl rfl rfl rfl rfl rfl rfl rfl ?_;rw[List.set_set]))
 all_goals (try conv=>whnf)
 obtain ⟨p1,p2,p3,p4,p5⟩:=yK hw (eE hi) (by simp) hs hl;rw[Dr (f:=gH bk f) (s:=⟨En ns,[]⟩) (eE hi)];have si:qu ⟨En ns,[]⟩ i nd.er=⟨En (ms.set i { nd with v:=aO,split:=true,k0:=(n:Nat),k1:=((n+1:Nat):Int),k2:=((n+2:Nat):Int),k3:=((n+3:Nat):Int),many:=0,l:=[] }),[]⟩:=by
  rw[tM];simp[qu,cS,En,PN.leaf,PN.er,hn]
 rw[si] at p1 p2 p3 p4 ⊢;refine aJ.part (dV (ms.set i { nd with v:=aO,split:=true,k0:=(n:Nat),k1:=((n+1:Nat):Int),k2:=((n+2:Nat):Int),k3:=((n+3:Nat):Int),many:=0,l:=[] })) (aB pN 4 sQ nd.v nd.l) 3 rfl (fun w S h=>JM Jh rfl rfl w S (cx w S h)) rfl ?_;refine aJ.nZ 8 rfl (q:=eG Tryz.prog (aB pN 4 sQ nd.v nd.l) sQ 4 (some A) (fun r=>.agg (pN r).toArray) nd.l) (fun w S h=>eG.sl (c:=c0) U sC ⟨_,rfl,rfl,rfl⟩ (fun w S h=>⟨_,by rw[<-hv];exact h.1.sl⟩) ⟨w,S,h⟩) fun Zl=>?_;refine aW U rfl (fun s:Nat×List PN=>[(0,.ptr 0 0),(1,iA i),(63,.lit (.slice (some A) nd.l.length c0)),(64,iA nd.l.length),(65,iA (s.1:Nat))]) (fun s=>OQ bk s.2 s.2.length B .nil++[.res (aB pN 4 sQ nd.v nd.l)])
  (fun s=>s.1<=nd.l.length/\nK bk OH ⟨En s.2,[]⟩/\(∃m,s.2[i]?=some m/\m.c=nd.c/\m.split=true)/\(s.1<=bk->xe ⟨En s.2,[]⟩ i nd.c s.1/\s.2.length<=n+4)/\hU (En s.2)+(nd.l.length - s.1)<=hU (En ns)/\(nd.l.drop s.1).foldl (fun s r=>gH bk f s i r) ⟨En s.2,[]⟩=nd.l.foldl (fun s r=>gH bk f s i r) ⟨En (ms.set i { nd with v:=aO,split:=true,k0:=(n:Nat),k1:=((n+1:Nat):Int),k2:=((n+2:Nat):Int),k3:=((n+3:Nat):Int),many:=0,l:=[] }),[]⟩)
  (fun s=>nd.l.length - s.1) (0,ms.set i { nd with v:=aO,split:=true,k0:=(n:Nat),k1:=((n+1:Nat):Int),k2:=((n+2:Nat):Int),k3:=((n+3:Nat):Int),many:=0,l:=[] }) ⟨Nat.zero_le _,p1,⟨_,jX Jh,rfl,rfl⟩,fun _=>⟨p2,by simp[sc]⟩,by simp only[Nat.sub_zero];exact p4,rfl⟩ [0,1,2,3,4,7,8] ?_ ?_
 ·exact ⟨rfl,⟨rr,rr,rr,rr,rr,tU⟩,⟨⟨_,rfl,by simp[sc,rh,OQ];rfl⟩,⟨_,rfl,rfl⟩,⟨_,rfl,rfl⟩,ko,ko,⟨_,rfl,rfl⟩,ko,tU⟩⟩
 ·rintro ⟨q,kZ⟩ ⟨q0,q1,⟨m,q2,q3,q4⟩,q5,q6,q7⟩;simp only[] at q0 q1 q2 q5 q6 q7;by_cases hq:q<nd.l.length
  ·obtain ⟨hF,UI⟩:=q5 (by omega);have jd:gX m=15 - nd.c.l:=by unfold gX;rw[if_pos q4,q3]
   have fw:=Bu f ⟨En kZ,[]⟩ i m.er nd.l[q] q1 (eE q2) (by simp) (by show 1+gX m<=f;rw[jd];omega) EH;have Uw:nd.l.drop q=nd.l[q]::nd.l.drop (q+1):=List.drop_eq_getElem_cons hq;rw[Uw,List.foldl_cons] at q7;conv=>whnf
   refine aa (fun _=>?_) (ck hq);conv=>whnf
   refine ai.bJ U rfl rfl rfl rfl rfl hq ?_;conv=>whnf
   obtain ⟨A',Ui,bq⟩:=Zl.at hq;cases Ui
   refine ai.aR (i:=6) (v:=.agg (mF nd.l[q])) rfl (fun w S hR=>bq w S hR _ hq) rfl rfl ?_;have Cs:nd.er.l.length<=hU (En ns):=K9 (eE hi);have Cs:nd.l.length<=hU (En ns):=Cs;have Xy:IntKind.i64.wrap ((q:Int)+1)=((q+1:Nat):Int):=aj (by omega) (by omega);have ZK:(nd.l.drop q).length=nd.l.length - q:=List.length_drop;repeat' ((conv=>whnf);first|with_reducible apply aa<;>intro _|refine aJ.drawn U rfl rfl ?_|with_reducible refine And.intro (aG.mk ⟨_,rfl,rfl⟩) ?_|(refine (Od kZ kZ.length i m B nd.l[q] rfl q2 q1 (by rw[jd];omega) EH (by rw[jd];omega) (by omega)).use [0,5,2,3,4] rfl rfl ⟨⟨_,rfl,rfl⟩,⟨_,rfl,rfl⟩,⟨_,rfl,rfl⟩,ko,ko,tU⟩ ?_;rintro _ _ ⟨rfl,pc,e1,e2,hH⟩;rcases hH with rfl|rfl;refine ⟨[],?_⟩;rotate_left;refine ⟨[5],?_⟩))
   all_goals (try conv=>whnf)
   all_goals
    have heq:(⟨En pc,[]⟩:PS)=gH bk f ⟨En kZ,[]⟩ i nd.l[q]:=by
     cases hp:gH bk f ⟨En kZ,[]⟩ i nd.l[q]
     rw[hp] at e1 e2;simp only[] at e1 e2;rw[e1,e2]
    rw[<-heq] at fw q7
    obtain ⟨_,m2,k1,k2,k3⟩:=fw.keeps i m.er (eE q2) (by simp)
    obtain ⟨m3,k4,rfl⟩:=zM k1
    have k5:=fw.hU
    have J:q+1<=nd.l.length/\nK bk OH ⟨En pc,[]⟩/\(∃m,pc[i]?=some m/\m.c=nd.c/\m.split=true)/\(q+1<=bk->xe ⟨En pc,[]⟩ i nd.c (q+1)/\pc.length<=n+4)/\hU (En pc)+(nd.l.length - (q+1))<=hU (En ns)/\(nd.l.drop (q+1)).foldl (fun s r=>gH bk f s i r) ⟨En pc,[]⟩=nd.l.foldl (fun s r=>gH bk f s i r) ⟨En (ms.set i { nd with v:=aO,split:=true,k0:=(n:Nat),k1:=((n+1:Nat):Int),k2:=((n+2:Nat):Int),k3:=((n+3:Nat):Int),many:=0,l:=[] }),[]⟩:=by
     refine ⟨hq,fw.wf,⟨m3,k4,by rw[<-q3];exact k2,k3 q4⟩,fun hb=>?_,by simp only[] at k5;omega,q7⟩;obtain ⟨f',rfl⟩:∃g,f=g+1:=⟨f - 1,by omega⟩;obtain ⟨g1,g2⟩:=By (f:=f') (r:=nd.l[q]) hF (show q<bk by omega);rw[<-heq] at g1 g2;simp only[Kk] at g2;exact ⟨g1,by omega⟩
   ·exact ⟨(q+1,pc),[0,1,2,3,4,8,6],⟨J,by show nd.l.length - (q+1)<nd.l.length - q;omega⟩,rfl,⟨rr,rr,rr,rr,⟨rfl,aw rfl Xy⟩,tU⟩,⟨⟨_,rfl,rfl⟩,⟨_,rfl,rfl⟩,⟨_,rfl,rfl⟩,ko,ko,⟨_,rfl,rfl⟩,ko,tU⟩⟩
   ·exact ⟨(q+1,pc),[0,1,2,3,4,5,6],⟨J,by show nd.l.length - (q+1)<nd.l.length - q;omega⟩,rfl,⟨rr,rr,rr,rr,⟨rfl,aw rfl Xy⟩,tU⟩,⟨⟨_,rfl,rfl⟩,⟨_,rfl,rfl⟩,⟨_,rfl,rfl⟩,ko,ko,⟨_,rfl,rfl⟩,ko,tU⟩⟩
  ·obtain rfl:q=nd.l.length:=by omega
   rw[List.drop_length,List.foldl_nil] at q7;conv=>whnf
   refine aa (cI hq) (fun _=>?_);conv=>whnf
   refine ⟨[5],?_⟩;conv=>whnf
   exact ⟨rfl,kZ,congrArg PS.ns q7,(congrArg PS.fr q7).symm,.inr rfl⟩
theorem Hy(bk:Nat):∀f,M5 bk f
 | 0=>fun _ _ _ _ _ _ _ _ _ _ h1=>absurd h1 (by omega)
 | f+1=>Mp (JJ (Hy bk f))
end Go.Proofs.YtmbdghclhpboaaaGreat
