/- Part of the proof: Pt. Conditions: as each states. -/
import Derived.Test.YtmbdghclhpboaaaGreatPq24
set_option linter.all false
set_option maxRecDepth 100000
namespace Go.Proofs.YtmbdghclhpboaaaGreat
open Ev
abbrev DL:TypeId:=331
abbrev C5:TypeId:=426
abbrev tZ:TypeId:=72
def kX(r:bW):List Value:=[iK r.id,iK r.x,iK r.y,iK r.label]
theorem qA(r:bW):(kX r).length=4:=rfl
def Ae(n:PN):List Value:=[iK n.c.l,iK n.c.x,iK n.c.y,iK n.k0,iK n.k1,iK n.k2,iK n.k3,iK n.many,.bool n.split,n.v]
theorem cg(n:PN):(Ae n).length=10:=rfl
theorem LX:iO ev 329 C5 10:=⟨⟨_,rfl,rfl⟩,_,_,rfl,rfl,rfl,rfl,by decide⟩
theorem At:iO ev 24 tZ 4:=⟨⟨_,rfl,rfl⟩,_,_,rfl,rfl,rfl,rfl,by decide⟩
theorem tE:p8 ev 328 3 (.agg [iA 0,iA 0,iA 0,iA 0]):=⟨_,_,_,_,rfl,rfl,rfl,rfl,rfl⟩
def l7(ns:List PN):List aC:=ns.map fun n=>aA kX 4 tZ n.v n.l
def eL(ns:List PN):aC:=aC.star (l7 ns)
theorem o0{ns:List PN}{i:Nat}{n:PN}(h:ns[i]?=some n):(l7 ns)[i]?=some (aA kX 4 tZ n.v n.l):=by unfold l7;rw[List.getElem?_map,h];rfl
theorem vN{ns:List PN}{i:Nat}(m:PN):l7 (ns.set i m)=(l7 ns).set i (aA kX 4 tZ m.v m.l):=by unfold l7;rw[List.map_set]
theorem Lg{ns:List PN}{i:Nat}{n m:PN}(h:ns[i]?=some n)(hv:m.v=n.v)(hl:m.l=n.l):eL (ns.set i m)=eL ns:=by
 unfold eL;rw[vN,hv,hl];congr 1;apply List.ext_getElem?;intro j;rw[List.getElem?_set];split
 ·rename_i e;subst e;rw[o0 h,if_pos (by unfold l7;rw[List.length_map];exact de h)]
 ·rfl
theorem zK{ns:List PN}{i:Nat}{n:PN}(h:ns[i]?=some n)(w:World)(S:Nat->Prop)(hp:(eL ns).at_ w S):bD [aA kX 4 tZ n.v n.l,aC.star ((l7 ns).set i aB)] w S:=by
 obtain ⟨S1,S2,h1,h2,h3,h4⟩:=db hp (o0 h);exact ⟨S1,S2,h1,⟨S2,fun _=>False,h2,fun _ h=>h,fun _ _ h=>h,fun b=>by simp⟩,h3,h4⟩
theorem Le{ns:List PN}{i:Nat}{n m:PN}(h:ns[i]?=some n)(w:World)(S:Nat->Prop)(hp:bD [aA kX 4 tZ m.v m.l,aC.star ((l7 ns).set i aB)] w S):(eL (ns.set i m)).at_ w S:=by
 obtain ⟨S1,S2,h1,⟨T1,T2,k1,k2,_,k4⟩,h3,h4⟩:=hp;have e:∀b,T1 b↔S2 b:=fun b=>by rw[k4 b];exact ⟨.inl,fun h=>h.elim id (fun h=>absurd h (k2 b))⟩
 have:=jV (i:=i) (r:=aA kX 4 tZ m.v m.l) k1 (de (o0 h)) h1 (fun b x y=>h3 b x ((e b).1 y));rw[<-vN] at this;exact wx this fun b=>by rw[h4 b,e b]
def vOk(n:PN):Prop:=(n.v=aD/\n.l=[])\/∃a c,n.v=.slice (some a) n.l.length c
def O5(ns:List PN):Prop:=∀(i:Nat) (n:PN),ns[i]?=some n->vOk n
theorem O5.set{ns:List PN}{i:Nat}{m:PN}(h:O5 ns)(hm:vOk m):O5 (ns.set i m):=fun j n hn=>by
 rcases o6 hn with ⟨_,rfl,_⟩|⟨_,hn⟩
 ·exact hm
 ·exact h j n hn
theorem Ez{ns:List PN}(w:World)(S:Nat->Prop)(hp:(eL ns).at_ w S):O5 ns:=fun i n hn=>by
 obtain ⟨S1,S2,h1,_⟩:=zK hn w S hp;rcases h1.1.2 with ⟨e,h0⟩|⟨g,cap,cur,e,_⟩
 ·exact .inl ⟨e,List.eq_nil_of_length_eq_zero h0⟩
 ·exact .inr ⟨_,_,e⟩
theorem Cl{w:World}:(aA kX 4 tZ aD []).at_ w (fun _=>False):=⟨Own.nil,fun b=>by simp[aD,Value.ownBlock]⟩
theorem Lf{ns:List PN}{i:Nat}{n m:PN}(h:ns[i]?=some n)(hv:m.v=aD)(hl:m.l=[])(w:World)(S:Nat->Prop)(hp:(eL ns).at_ w S):bD [aA kX 4 tZ n.v n.l,eL (ns.set i m)] w S:=by
 obtain ⟨S1,S2,h1,h2,h3,h4⟩:=db hp (o0 h);have:=jV (i:=i) (r:=aA kX 4 tZ m.v m.l) h2 (de (o0 h)) (by rw[hv,hl];exact Cl) (fun _ h _=>h);rw[<-vN] at this;have h5:(eL (ns.set i m)).at_ w S2:=wx this fun b=>by simp
 exact ⟨S1,S2,h1,⟨S2,fun _=>False,h5,fun _ h=>h,fun _ _ h=>h,fun b=>by simp⟩,h3,h4⟩
theorem rA{ns:List PN}{c:cD}(w:World)(S:Nat->Prop)(hp:(eL ns).at_ w S):(eL (ns++[PN.leaf c])).at_ w S:=by
 show bD (l7 (ns++[PN.leaf c])) w S
 unfold l7;rw[List.map_append];exact dK.2 ⟨S,fun _=>False,hp,⟨fun _=>False,fun _=>False,Cl,fun _ h=>h,fun _ h _=>h,fun b=>by simp⟩,fun _ _ h=>h,fun b=>by simp⟩
def En(ns:List PN):List PN:=ns.map PN.er
theorem fh{ns:List PN}{i:Nat}{n:PN}(h:ns[i]?=some n):(En ns)[i]?=some n.er:=by unfold En;rw[List.getElem?_map,h];rfl
theorem AN{ns:List PN}{i:Nat}{m:PN}(h:(En ns)[i]?=some m):∃n,ns[i]?=some n/\m=n.er:=by
 unfold En at h;rw[List.getElem?_map] at h;cases hn:ns[i]? with
 | none=>rw[hn] at h;cases h
 | some n=>rw[hn] at h;exact ⟨n,rfl,(Option.some.inj h).symm⟩
theorem nf{ns:List PN}{i:Nat}(m:PN):En (ns.set i m)=(En ns).set i m.er:=by unfold En;rw[List.map_set]
theorem LQ(ns:List PN):(En ns).length=ns.length:=by unfold En;rw[List.length_map]
inductive FQ where
 | nil
 | row (l:List Int) (Qy:List Value)
def FQ.fr:FQ->List Int
 | .nil=>[]
 | .row l _=>l
def FQ.v:FQ->AV
 | .nil=>.lit (.slice none 0 0)
 | .row l _=>.slice 4 0 l.length (.grown 1)
def FQ.o:FQ->ai
 | .nil=>.res aB
 | .row l Qy=>.row (l.map iK++Qy) 3
def rC(bk:Int)(ns:List PN)(n:Nat)(bZ:List (Int×bW))(q:FQ):List ai:=[.cells [iA bk,.slice 1 0 n (.grown 10),q.v,.map 2] DL,.row (ns.flatMap Ae) C5,.bE (mE iK yS bZ),.res (eL ns),q.o]
theorem AD{bk:Int}{ns:List PN}{n:Nat}{B:List (Int×bW)}{c:cD}(hn:ns.length=n)(hb:n<=2000000000):CP [] 223 [.ptr 0 0,nU c] (rC bk ns n B .nil) (fun v H'=>v=iA n/\∃G1 G2 G3,H'=[.cells [iA bk,.slice 8 0 (n+1) (.grown 10),.lit (.slice none 0 0),.map 2] DL,.dead,.bE (mE iK yS B),.res (eL ns),.res aB,G1,G2,G3,.row ((ns++[PN.leaf c]).flatMap Ae) C5]):=by
 refine ag aa rfl ?_;repeat' ((conv=>whnf);first|with_reducible apply af<;>intro _|refine aM.drawn aa rfl rfl ?_|with_reducible refine And.intro (aN.mk ⟨_,rfl,rfl⟩) ?_|refine dx.own LX rfl rfl rfl rfl rfl rfl (by rw[eC cg,hn]) (by omega) ?_)
 all_goals (try conv=>whnf)
 rw[List.flatMap_append];exact ⟨congrArg iA (qK (by omega)),_,_,_,rfl⟩
theorem aaL{x y:Int}(hx:0<=x)(hy:0<=y):IntKind.i64.wrap (x.tmod 2+IntKind.i64.wrap (y.tmod 2 * 2))=x % 2+y % 2 * 2:=by
 rw[Int.tmod_eq_emod_of_nonneg hx,Int.tmod_eq_emod_of_nonneg hy,ak (n:=y % 2 * 2) (by omega) (by omega)];exact ak (by omega) (by omega)
theorem Pq{b:Bool}{x y l:Int}(h:b=true->0<=x/\0<=y):0<=(if b=true then vL x y l else ⟨0,0,0⟩:cD).x/\0<=(if b=true then vL x y l else ⟨0,0,0⟩:cD).y:=by
 split
 ·rename_i hb;exact ⟨pH (h hb).1,pH (h hb).2⟩
 ·exact ⟨Int.le_refl _,Int.le_refl _⟩
theorem Py{b:Bool}{x y:Int}(h:(b&&fits x y)=true):0<=x/\0<=y:=by
 simp only[Bool.and_eq_true] at h;have:=dT1 h.2;omega
theorem X7{bk:Int}{ns:List PN}{n i:Nat}{B:List (Int×bW)}{q:FQ}{r:bW}{nd:PN}(hn:ns.length=n)(hi:ns[i]?=some nd)(hr:nd.c.right=true):CP [] 319 [.ptr 0 0,iA i,.agg [iA r.x,iA r.y]] (rC bk ns n B q) (fun v H'=>v=iA (nd.za r)/\∃G,H'=rC bk ns n B q++G):=by
 have tf:i<n:=by have:=de hi;omega
 have hb:=cD.bd hr;have ew:IntKind.i64.wrap (nd.c.l+1)=nd.c.l+1:=ak (by omega) (by omega);have ZU:=Pq (b:=decide (0<=nd.c.l+1/\nd.c.l+1<=16)&&fits r.x r.y) (x:=r.x) (y:=r.y) (l:=nd.c.l+1) Py;rcases q with _|⟨l,Qy⟩;all_goals
  refine ag aa rfl ?_
  repeat' ((conv=>whnf);first|with_reducible apply af<;>intro _|refine aM.drawn aa rfl rfl ?_|with_reducible refine And.intro (aN.mk ⟨_,rfl,rfl⟩) ?_|refine And.intro (aN.j8 (j:=0) cg hi rfl rfl rfl rfl rfl rfl rfl rfl rfl rfl) ?_|refine aO.of (k:=i) rfl tf ?_|refine dL.j8 (j:=0) cg hi rfl rfl ?_|(refine YR (l:=IntKind.i64.wrap (nd.c.l+1)) ?_;rw[ew])|refine al.rem rfl rfl rfl ?_)
  all_goals (try conv=>whnf)
  all_goals exact ⟨congrArg iA (aaL ZU.1 ZU.2),_,rfl⟩
def Q4(bk:Int)(ns:List PN)(n:Nat)(bZ:List (Int×bW))(q:FQ):List ai:=[.cells [iA bk,.slice 5 0 n (.grown 10),q.v,.map 2] DL,.dead,.bE (mE iK yS bZ),.res (eL ns),q.o,.row (ns.flatMap Ae) C5]
def Aq(bk:Int)(B:List (Int×bW))(s:PS)(v:AV)(H:List ai):Prop:=v=aQ/\∃ns,En ns=s.ns/\s.fr=[]/\(H=rC bk ns ns.length B .nil\/H=Q4 bk ns ns.length B .nil)
abbrev QP:Nat->Prop:=fun _=>False
def OX(bk f:Nat):Prop:=∀(ns:List PN) (n i:Nat) (nd:PN) (B:List (Int×bW)) (r:bW),ns.length=n->ns[i]?=some nd->oK bk QP ⟨En ns,[]⟩->1+iH nd<=f->1<=f->(n:Int)+4 * iH nd<=2000000000->iN (En ns)+1<=2000000000 ->
 CP [] 233 [.ptr 0 0,iA i,.agg (lE r)] (rC bk ns n B .nil) (Aq bk B (ig bk f ⟨En ns,[]⟩ i r))
def OV(bk f:Nat):Prop:=∀(ns:List PN) (n i:Nat) (nd:PN) (B:List (Int×bW)),ns.length=n->ns[i]?=some nd->oK bk (·=i) ⟨En ns,[]⟩->nd.split=false->nd.c.l<16->nd.l.length<=bk+1->nd.l≠[]->16 - nd.c.l<=f->1<=f->(n:Int)+4 * (16 - nd.c.l)<=2000000000->iN (En ns)<=2000000000 ->
 CP [] 320 [.ptr 0 0,iA i] (rC bk ns n B .nil) (Aq bk B (yO (ig bk f) ⟨En ns,[]⟩ i))
theorem TH(nd:PN){k:Nat}(h:k<4):(Ae nd)[3+k]?=some (iK (nd.sm k)):=by
 rcases (by omega:k=0\/k=1\/k=2\/k=3) with rfl|rfl|rfl|rfl<;>rfl
theorem Og{bk f:Nat}(nO:OV bk f):OX bk (f+1):=by
 intro ns n i K7 B r hn hi hw hf _ hlen VD;have wY:=cD.bd (hw.cell i _ (fh hi));have ZE:K7.er.c=K7.c:=rfl;rw[ZE] at wY;obtain ⟨m,d1,d2,d3,d4,d5,d6,d7,d8⟩:=qv (r:=r) 17 hw (fh hi) (by simp) (by have:=(cD.bd (hw.cell i _ (fh hi))).1;omega);refine aj.use (args0:=[.ptr 0 0,iA i,.agg (lE r)]) (H0:=rC bk ns n B .nil) (K0:=fun v H'=>∃ks,Dg [0,1,2,3,4] ks (rC bk ns n B .nil) H' v (Aq bk B (ig bk (f+1) ⟨En ns,[]⟩ i r))) ?_ [0,1,2,3,4] rfl rfl ⟨⟨_,rfl,rfl⟩,⟨_,rfl,rfl⟩,⟨_,rfl,rfl⟩,ko,ko,tU⟩ (fun v H' h=>h);refine aj.nY 3 rfl Ez fun XL=>?_;refine ag aa rfl ?_;conv=>whnf
 refine aV aa rfl (fun s:List PN×Nat×Nat=>[(0,.ptr 0 0),(1,iA s.2.1),(5,.ptr 5 0)]) (fun s=>rC bk s.1 n B .nil++[.cells (lE r) tZ]) (fun s=>s.1.length=n/\O5 s.1/\∃nd,s.1[s.2.1]?=some nd/\oK bk QP ⟨En s.1,[]⟩/\17 - nd.c.l<=s.2.2/\fZ s.2.2 (En s.1) s.2.1 r=fZ 17 (En ns) i r) (fun s=>s.2.2) (ns,i,17) ⟨hn,XL,K7,hi,hw,by show 17 - K7.c.l<=17;omega,rfl⟩ [0,1,2,3,4,5] ?_ ?_
 ·exact ⟨rfl,⟨rr,rr,rr,tU⟩,⟨⟨_,rfl,rfl⟩,⟨_,rfl,rfl⟩,⟨_,rfl,rfl⟩,ko,ko,⟨_,rfl,rfl⟩,tU⟩⟩
 ·rintro ⟨ms,j,g⟩ ⟨hm,TE,nd,hj,Qc,hg,hd⟩;simp only[] at hm TE hj Qc hg hd;have uQ:j<n:=by have:=de hj;omega
  have w5:=Qc.cell j _ (fh hj);have nB:=cD.bd w5;obtain ⟨kw,ZN,ZL⟩:∃k:Nat,nd.za r=(k:Int)/\k<4:=⟨(nd.za r).toNat,by have:=nJ nd r;omega,by have:=nJ nd r;omega⟩;conv=>whnf
  refine aO.of (k:=j) rfl uQ ?_;conv=>whnf
  refine dL.j8 (j:=8) cg hj rfl rfl ?_;conv=>whnf
  refine af (fun hs=>?_) (fun hs=>?_)
  ·have tv:eL (ms.set j { nd with many:=IntKind.i64.wrap (nd.many+1) })=eL ms:=Lg hj rfl rfl;have hj':(ms.set j { nd with many:=IntKind.i64.wrap (nd.many+1) })[j]?=some { nd with many:=IntKind.i64.wrap (nd.many+1) }:=kO hj;repeat' ((conv=>whnf);first|with_reducible apply af<;>intro _|refine aM.drawn aa rfl rfl ?_|with_reducible refine And.intro (aN.mk ⟨_,rfl,rfl⟩) ?_|refine aO.of (k:=j) rfl uQ ?_|refine aO.of (k:=kw) ZN ZL ?_|refine dL.j8 (j:=7) cg hj rfl rfl ?_|refine al.ow (j:=7) (x:={ nd with many:=IntKind.i64.wrap (nd.many+1) }) cg hj rfl rfl rfl rfl rfl rfl rfl rfl rfl rfl rfl rfl ?_|(refine (X7 (n:=n) (B:=B) (q:=.nil) (r:=r) (by simp[hm]) hj' w5).use [0,1,2,3,4] rfl rfl ⟨⟨_,rfl,rfl⟩,⟨_,rfl,rfl⟩,⟨_,rfl,rfl⟩,⟨_,rfl,fun _ _ h=>by rw[tv];exact h⟩,ko,tU⟩ ?_;rintro _ _ ⟨rfl,G,rfl⟩;refine ⟨[],?_⟩)|refine dL.j8 (j:=3+kw) cg hj' (by omega) (TH _ ZL) ?_)
   all_goals (try conv=>whnf)
   obtain ⟨k,x,h1,h2,h3,_⟩:=(Qc.kids j _ (fh hj) hs).sm (nd.za r) (nJ nd r).1 (nJ nd r).2;obtain ⟨g,rfl⟩:∃e,g=e+1:=⟨g - 1,by have:nd.er.c.l=nd.c.l:=rfl;omega⟩;obtain ⟨y,hy,rfl⟩:=AN h2;have an:=(Qc.kids j _ (fh hj) hs).lt;have yq:=qS w5 an (nJ nd r).1 (nJ nd r).2;have hkj:k≠j:=fun e=>by
    rw[e,hj] at hy;cases hy
    rw[<-h3] at yq;omega
   have XN:=Qc.turn (m:={ nd.er with many:=IntKind.i64.wrap (nd.many+1) }) (fh hj) ⟨rfl,rfl,rfl,rfl,rfl,rfl⟩ (fun _ hh=>by rw[show nd.er.split=nd.split from rfl,hs] at hh;cases hh);have vz:fZ (g+1) (En ms) j r=fZ g (En (ms.set j { nd with many:=IntKind.i64.wrap (nd.many+1) })) k r:=by
    simp only[fZ,fh hj,nf];rw[if_pos (show nd.er.split=true from hs),show nd.er.za r=nd.za r from rfl,h1,Int.toNat_natCast];rfl
   exact ⟨(ms.set j { nd with many:=IntKind.i64.wrap (nd.many+1) },k,g),[0,1,2,3,4,5],⟨⟨by simp[hm],TE.set (TE j nd hj),y,by show (ms.set j _)[k]?=_;rw[List.getElem?_set,if_neg (Ne.symm hkj)];exact hy,by rw[nf];exact XN,by
     have e1:y.c.l=nd.c.l+1:=by rw[show y.c=nd.c.child (nd.za r) from h3];exact yq.2
     show 17 - y.c.l<=g
     omega,by rw[<-hd,vz]⟩,Nat.lt_succ_self g⟩,rfl,⟨rr,⟨rfl,ax rfl (by rw[<-ZN];exact h1)⟩,⟨rfl,rfl⟩,tU⟩,⟨⟨_,rfl,rfl⟩,⟨_,rfl,rfl⟩,⟨_,rfl,rfl⟩,ko,ko,⟨_,rfl,rfl⟩,tU⟩⟩
  ·have ph:∃e,g=e+1:=⟨g - 1,by have:nd.er.c.l=nd.c.l:=rfl;omega⟩;obtain ⟨g,rfl⟩:=ph;have vz:fZ (g+1) (En ms) j r=(En ms,j):=by
    simp only[fZ,fh hj];rw[if_neg (by rw[show nd.er.split=nd.split from rfl,hs];simp)]
   rw[vz] at hd;have dk:=qv (r:=r) 17 hw (fh hi) (by simp) (by have:=(cD.bd (hw.cell i _ (fh hi))).1;omega);simp only[<-hd] at d1 d2 d3 d4 d5 d6;have e1:=fh hj;rw[e1] at d1;cases d1
   have pV:=M6 (fh hj);have htd:=yj (r:=r) 17 (ns:=En ns) (i:=i);rw[<-hd] at htd;have acB:nd.l.length<=iN (En ms):=pV;have acA:iN (En ms)=iN (En ns):=htd;have FT:(ms.set j { nd with many:=IntKind.i64.wrap (nd.many+1) })[j]?=some { nd with many:=IntKind.i64.wrap (nd.many+1) }:=kO hj;have hjn':∀(v':Value) (w:World) (S:Nat->Prop),bD [aA kX 4 tZ v' (nd.l++[r]),aC.star ((l7 ms).set j aB)] w S->(eL (ms.set j { nd with many:=IntKind.i64.wrap (nd.many+1),l:=nd.l++[r],v:=v' })).at_ w S:=fun v' w S h=>Le (m:={ nd with many:=IntKind.i64.wrap (nd.many+1),l:=nd.l++[r],v:=v' }) hj w S h;have Vp:∀(v:Value),nd.v=v->∀w S,(eL ms).at_ w S->bD [aA kX 4 tZ v nd.l,aC.star ((l7 ms).set j aB)] w S:=fun v e w S h=>by rw[<-e];exact zK hj w S h
   have ZW:∀(a:bW),∀u∈kX a,u.oneCell'=true:=fun a u hu=>by
    simp only[kX,List.mem_cons,List.not_mem_nil,or_false] at hu;rcases hu with rfl|rfl|rfl|rfl<;>rfl
   have Qk:ig bk (f+1) ⟨En ns,[]⟩ i r=if bk<nd.l.length+1/\nd.c.l<16 then yO (ig bk f) ⟨(En ms).set j { nd.er with many:=IntKind.i64.wrap (nd.many+1),l:=nd.l++[r] },[]⟩ j else ⟨(En ms).set j { nd.er with many:=IntKind.i64.wrap (nd.many+1),l:=nd.l++[r] },[]⟩:=by
    simp only[ig,<-hd,e1];rfl
   rw[Qk];have jN:16 - nd.c.l<=iH K7:=by
    have e3:nd.er.c=nd.c:=rfl;have e4:K7.er.split=K7.split:=rfl;rw[ZE,e3] at d3 d4;rw[e4] at d4;unfold iH;split
    ·rename_i IK;have:=d4 IK;omega
    ·omega
   have w1:oK bk (·=j) (⟨En ms,[]⟩:PS):=⟨d5.cell,d5.kids,fun j q hq _ hs hl=>d5.Kt j q hq id hs hl,d5.free,d5.NA⟩;have w2:=w1.turn (m:={ nd.er with many:=IntKind.i64.wrap (nd.many+1),l:=nd.l++[r] }) e1 ⟨rfl,rfl,rfl,rfl,rfl,rfl⟩ (fun hx=>absurd rfl hx);have oS:(nd.l++[r]).length=nd.l.length+1:=by simp
   have Vr:nd.c.l<16->nd.l.length<=bk:=fun h=>d5.Kt j nd.er e1 id d2 h;have ZG:nd.er.l.length=nd.l.length:=rfl;have IM:∀X:PN,X.l.length=nd.l.length+1->iN ((En ms).set j X)<=2000000000:=fun X hX=>by have:=nI X e1;rw[hX,ZG] at this;omega
   rcases TE j nd hj with ⟨KP,tj⟩|⟨A0,c0,KP⟩
   ·repeat' ((conv=>whnf);first|with_reducible apply af<;>intro _|refine aM.drawn aa rfl rfl ?_|with_reducible refine And.intro (aN.mk ⟨_,rfl,rfl⟩) ?_|refine aO.of (k:=j) rfl uQ ?_|refine dL.j8 (j:=7) cg hj rfl rfl ?_|refine al.ow (j:=7) (x:={ nd with many:=IntKind.i64.wrap (nd.many+1) }) cg hj rfl rfl rfl rfl rfl rfl rfl rfl rfl rfl rfl rfl ?_|refine dL.j8 (j:=9) (u:=aD) cg FT rfl (congrArg some KP) ?_|refine And.intro (aN.j8 (j:=9) (u:=aD) cg FT rfl rfl rfl rfl rfl rfl rfl (congrArg some KP) rfl rfl) ?_|(refine dx.om (eH.iw aa At qA (by decide) ZW (i:=3) (y:=r) (l:=nd.l) (v:=aD) (R':=fun v'=>eL (ms.set j { nd with many:=IntKind.i64.wrap (nd.many+1),l:=nd.l++[r],v:=v' })) rfl rfl rfl rfl rfl rfl rfl (Vp _ KP) hjn' (by omega) ?_);intro A c))
    have uP:(ms.set j { nd with many:=IntKind.i64.wrap (nd.many+1),l:=nd.l++[r],v:=.slice (some A) (nd.l.length+1) c })[j]?=some { nd with many:=IntKind.i64.wrap (nd.many+1),l:=nd.l++[r],v:=.slice (some A) (nd.l.length+1) c }:=kO hj;repeat' ((conv=>whnf);first|with_reducible apply af<;>intro _|refine aM.drawn aa rfl rfl ?_|with_reducible refine And.intro (aN.mk ⟨_,rfl,rfl⟩) ?_|(refine al.ow (j:=9) (x:={ nd with many:=IntKind.i64.wrap (nd.many+1),l:=nd.l++[r],v:=.slice (some A) (nd.l.length+1) c }) cg FT rfl rfl rfl rfl rfl rfl rfl rfl rfl rfl rfl rfl ?_;rw[List.set_set])|refine dL.j8 (j:=9) (u:=.slice (some A) (nd.l.length+1) c) cg uP rfl rfl ?_|refine dL.j8 (j:=0) cg uP rfl rfl ?_|refine And.intro (aN.j8 (j:=9) (u:=.slice (some A) (nd.l.length+1) c) cg uP rfl rfl rfl rfl rfl rfl rfl rfl rfl rfl) ?_|refine And.intro (aN.j8 (j:=0) cg uP rfl rfl rfl rfl rfl rfl rfl rfl rfl rfl) ?_)
    all_goals (try conv=>whnf)
    ·rename_i h1 h2;have h1:=dT1 h1;have h2:nd.c.l<16:=dT1 h2;have hN:(ms.set j { nd with many:=IntKind.i64.wrap (nd.many+1),l:=nd.l++[r],v:=.slice (some A) (nd.l.length+1) c }).length=n:=by simp[hm]
     rw[if_pos (by omega)];refine (nO _ n j { nd with many:=IntKind.i64.wrap (nd.many+1),l:=nd.l++[r],v:=.slice (some A) (nd.l.length+1) c } B hN uP (by rw[nf];exact w2) d2 h2 (by show (nd.l++[r]).length<=bk+1;have:=Vr h2;omega) (by show nd.l++[r]≠[];simp) (by show 16 - nd.c.l<=f;omega) (by omega) (by show (n:Int)+4 * (16 - nd.c.l)<=2000000000;omega) (by rw[nf];exact IM _ oS)).use [0,1,2,3,4] rfl rfl ⟨⟨_,rfl,rfl⟩,⟨_,rfl,rfl⟩,⟨_,rfl,rfl⟩,ko,ko,tU⟩ ?_;rw[nf];rintro _ _ ⟨rfl,lM,e5,e6,rfl|rfl⟩
     ·refine ⟨[],?_⟩;conv=>whnf
      refine ⟨[],?_⟩;conv=>whnf
      exact ⟨rfl,lM,e5,e6,.inl rfl⟩
     ·refine ⟨[5],?_⟩;conv=>whnf
      refine ⟨[7],?_⟩;conv=>whnf
      exact ⟨rfl,lM,e5,e6,.inr rfl⟩
    all_goals
     rw[if_neg (fun hc=>by simp_all<;>omega)]
     refine ⟨[],?_⟩
     conv=>whnf
     exact ⟨rfl,ms.set j { nd with many:=IntKind.i64.wrap (nd.many+1),l:=nd.l++[r],v:=.slice (some A) (nd.l.length+1) c },nf _,rfl,.inl (by rw[show (ms.set j { nd with many:=IntKind.i64.wrap (nd.many+1),l:=nd.l++[r],v:=.slice (some A) (nd.l.length+1) c }).length=n by simp[hm]];rfl)⟩
   ·repeat' ((conv=>whnf);first|with_reducible apply af<;>intro _|refine aM.drawn aa rfl rfl ?_|with_reducible refine And.intro (aN.mk ⟨_,rfl,rfl⟩) ?_|refine aO.of (k:=j) rfl uQ ?_|refine dL.j8 (j:=7) cg hj rfl rfl ?_|refine al.ow (j:=7) (x:={ nd with many:=IntKind.i64.wrap (nd.many+1) }) cg hj rfl rfl rfl rfl rfl rfl rfl rfl rfl rfl rfl rfl ?_|refine dL.j8 (j:=9) (u:=.slice (some A0) nd.l.length c0) cg FT rfl (congrArg some KP) ?_|refine And.intro (aN.j8 (j:=9) (u:=.slice (some A0) nd.l.length c0) cg FT rfl rfl rfl rfl rfl rfl rfl (congrArg some KP) rfl rfl) ?_|(refine al.om (eH.iw aa At qA (by decide) ZW (i:=3) (y:=r) (l:=nd.l) (v:=.slice (some A0) nd.l.length c0) (R':=fun v'=>eL (ms.set j { nd with many:=IntKind.i64.wrap (nd.many+1),l:=nd.l++[r],v:=v' })) rfl rfl rfl rfl rfl rfl rfl (Vp _ KP) hjn' (by omega) ?_);intro A c))
    have uP:(ms.set j { nd with many:=IntKind.i64.wrap (nd.many+1),l:=nd.l++[r],v:=.slice (some A) (nd.l.length+1) c })[j]?=some { nd with many:=IntKind.i64.wrap (nd.many+1),l:=nd.l++[r],v:=.slice (some A) (nd.l.length+1) c }:=kO hj;repeat' ((conv=>whnf);first|with_reducible apply af<;>intro _|refine aM.drawn aa rfl rfl ?_|with_reducible refine And.intro (aN.mk ⟨_,rfl,rfl⟩) ?_|(refine al.ow (j:=9) (x:={ nd with many:=IntKind.i64.wrap (nd.many+1),l:=nd.l++[r],v:=.slice (some A) (nd.l.length+1) c }) cg FT rfl rfl rfl rfl rfl rfl rfl rfl rfl rfl rfl rfl ?_;rw[List.set_set])|refine dL.j8 (j:=9) (u:=.slice (some A) (nd.l.length+1) c) cg uP rfl rfl ?_|refine dL.j8 (j:=0) cg uP rfl rfl ?_|refine And.intro (aN.j8 (j:=9) (u:=.slice (some A) (nd.l.length+1) c) cg uP rfl rfl rfl rfl rfl rfl rfl rfl rfl rfl) ?_|refine And.intro (aN.j8 (j:=0) cg uP rfl rfl rfl rfl rfl rfl rfl rfl rfl rfl) ?_)
    all_goals (try conv=>whnf)
    ·rename_i h1 h2;have h1:=dT1 h1;have h2:nd.c.l<16:=dT1 h2;have hN:(ms.set j { nd with many:=IntKind.i64.wrap (nd.many+1),l:=nd.l++[r],v:=.slice (some A) (nd.l.length+1) c }).length=n:=by simp[hm]
     rw[if_pos (by omega)];refine (nO _ n j { nd with many:=IntKind.i64.wrap (nd.many+1),l:=nd.l++[r],v:=.slice (some A) (nd.l.length+1) c } B hN uP (by rw[nf];exact w2) d2 h2 (by show (nd.l++[r]).length<=bk+1;have:=Vr h2;omega) (by show nd.l++[r]≠[];simp) (by show 16 - nd.c.l<=f;omega) (by omega) (by show (n:Int)+4 * (16 - nd.c.l)<=2000000000;omega) (by rw[nf];exact IM _ oS)).use [0,1,2,3,4] rfl rfl ⟨⟨_,rfl,rfl⟩,⟨_,rfl,rfl⟩,⟨_,rfl,rfl⟩,ko,ko,tU⟩ ?_;rw[nf];rintro _ _ ⟨rfl,lM,e5,e6,rfl|rfl⟩
     ·refine ⟨[],?_⟩;conv=>whnf
      refine ⟨[],?_⟩;conv=>whnf
      exact ⟨rfl,lM,e5,e6,.inl rfl⟩
     ·refine ⟨[5],?_⟩;conv=>whnf
      refine ⟨[7],?_⟩;conv=>whnf
      exact ⟨rfl,lM,e5,e6,.inr rfl⟩
    all_goals
     rw[if_neg (fun hc=>by simp_all<;>omega)]
     refine ⟨[],?_⟩
     conv=>whnf
     exact ⟨rfl,ms.set j { nd with many:=IntKind.i64.wrap (nd.many+1),l:=nd.l++[r],v:=.slice (some A) (nd.l.length+1) c },nf _,rfl,.inl (by rw[show (ms.set j { nd with many:=IntKind.i64.wrap (nd.many+1),l:=nd.l++[r],v:=.slice (some A) (nd.l.length+1) c }).length=n by simp[hm]];rfl)⟩
theorem Lc{bk f:Nat}(Qk:OX bk f):OV bk f:=by
 intro ns n i nd B hn hi hw hs hl hk aP hf FP hlen VD;have w5:nd.c.right=true:=hw.cell i nd.er (fh hi);have nB:=cD.bd w5;have iX:i<n:=by have:=de hi;omega
 have lk:∀j:Int,0<=j->j<=3->(nd.c.right&&decide (nd.c.l≠16/\0<=j/\j<=3))=true:=fun j h0 h3=>by rw[w5,decide_eq_true ⟨by omega,h0,h3⟩];rfl
 refine aj.use (args0:=[.ptr 0 0,iA i]) (H0:=rC bk ns n B .nil) (K0:=fun v H'=>∃ks,Dg [0,1,2,3,4] ks (rC bk ns n B .nil) H' v (Aq bk B (yO (ig bk f) ⟨En ns,[]⟩ i))) ?_ [0,1,2,3,4] rfl rfl ⟨⟨_,rfl,rfl⟩,⟨_,rfl,rfl⟩,⟨_,rfl,rfl⟩,ko,ko,tU⟩ (fun v H' h=>h);refine aj.nY 3 rfl Ez fun XL=>?_;obtain ⟨A,c0,hv⟩:∃a c,nd.v=.slice (some a) nd.l.length c:=(XL i nd hi).resolve_left fun h=>aP h.2;refine ag aa rfl ?_;repeat' ((conv=>whnf);first|with_reducible apply af<;>intro _|refine aM.drawn aa rfl rfl ?_|with_reducible refine And.intro (aN.mk ⟨_,rfl,rfl⟩) ?_|refine aO.of (k:=i) rfl iX ?_|refine dL.j8 (j:=9) (u:=.slice (some A) nd.l.length c0) cg hi rfl (congrArg some hv) ?_|refine dL.zu (j:=0) cg hi rfl rfl rfl ?_|refine And.intro (aN.j8 (j:=9) (u:=.slice (some A) nd.l.length c0) cg hi rfl rfl rfl rfl rfl rfl rfl (congrArg some hv) rfl rfl) ?_|refine And.intro (aN.zu (j:=0) cg hi rfl rfl rfl rfl rfl rfl rfl rfl rfl rfl rfl rfl) ?_)
 all_goals (try conv=>whnf)
 refine bS.loop 5 ?_;refine bS.step aa rfl ?_;repeat' ((conv=>whnf);first|with_reducible apply af<;>intro _|refine aM.drawn aa rfl rfl ?_|with_reducible refine And.intro (aN.mk ⟨_,rfl,rfl⟩) ?_|(refine pw (i:=0) ?_;rw[lk 0 (by omega) (by omega)])|(refine (AD (ns:=ns) (n:=n+0) (B:=B) (c:=nd.c.child 0) (by simp[hn]) (by omega)).use [0,1,2,3,4] rfl rfl ⟨⟨_,rfl,rfl⟩,⟨_,rfl,rfl⟩,⟨_,rfl,rfl⟩,ko,ko,tU⟩ ?_;rintro _ _ ⟨rfl,G1,G2,G3,rfl⟩;refine ⟨[8],?_⟩)|refine aO.of (k:=0) rfl (by omega) ?_)
 all_goals (try conv=>whnf)
 refine bS.sub [0,1,2,3,4,5,6,8] (l:=[(0,.ptr 0 0),(1,iA i),(4,.lit (.slice (some A) nd.l.length c0)),(5,.ptr 5 0),(6,.ptr 6 0),(29,iA 1)]) (H0:=[.cells [iA bk,.slice 7 0 (n+1) (.grown 10),.lit (.slice none 0 0),.map 2] DL,.dead,.bE (mE iK yS B),.res (eL ns),.res aB,.cells [iA nd.c.l,iA nd.c.x,iA nd.c.y] 232,.cells [iA (n:Nat),iA 0,iA 0,iA 0] 424,.row ((ns++[PN.leaf (nd.c.child 0)]).flatMap Ae) C5]) ⟨rfl,⟨rr,rr,rr,rr,rr,⟨rfl,ax rfl (by decide)⟩,tU⟩,⟨⟨_,rfl,rfl⟩,⟨_,rfl,rfl⟩,⟨_,rfl,rfl⟩,ko,ko,⟨_,rfl,rfl⟩,⟨_,rfl,rfl⟩,⟨_,rfl,rfl⟩,tU⟩⟩ ?_;refine bS.step aa rfl ?_;repeat' ((conv=>whnf);first|with_reducible apply af<;>intro _|refine aM.drawn aa rfl rfl ?_|with_reducible refine And.intro (aN.mk ⟨_,rfl,rfl⟩) ?_|(refine pw (i:=1) ?_;rw[lk 1 (by omega) (by omega)])|(refine (AD (ns:=(ns++[PN.leaf (nd.c.child 0)])) (n:=n+1) (B:=B) (c:=nd.c.child 1) (by simp[hn]) (by omega)).use [0,7,2,3,4] rfl rfl ⟨⟨_,rfl,rfl⟩,⟨_,rfl,rfl⟩,⟨_,rfl,rfl⟩,⟨_,rfl,fun w S h=>rA w S h⟩,ko,tU⟩ ?_;rintro _ _ ⟨rfl,G1,G2,G3,rfl⟩;refine ⟨[8],?_⟩)|refine aO.of (k:=1) rfl (by omega) ?_)
 all_goals (try conv=>whnf)
 refine bS.sub [0,1,2,3,4,5,6,9] (l:=[(0,.ptr 0 0),(1,iA i),(4,.lit (.slice (some A) nd.l.length c0)),(5,.ptr 5 0),(6,.ptr 6 0),(29,iA 2)]) (H0:=[.cells [iA bk,.slice 7 0 (n+2) (.grown 10),.lit (.slice none 0 0),.map 2] DL,.dead,.bE (mE iK yS B),.res (eL (ns++[PN.leaf (nd.c.child 0)])),.res aB,.cells [iA nd.c.l,iA nd.c.x,iA nd.c.y] 232,.cells [iA (n:Nat),iA ((n+1:Nat):Int),iA 0,iA 0] 424,.row (((ns++[PN.leaf (nd.c.child 0)])++[PN.leaf (nd.c.child 1)]).flatMap Ae) C5]) ⟨rfl,⟨rr,rr,rr,rr,rr,⟨rfl,ax rfl (by decide)⟩,tU⟩,⟨⟨_,rfl,rfl⟩,⟨_,rfl,rfl⟩,⟨_,rfl,rfl⟩,ko,ko,⟨_,rfl,rfl⟩,⟨_,rfl,rfl⟩,⟨_,rfl,rfl⟩,tU⟩⟩ ?_;refine bS.step aa rfl ?_;repeat' ((conv=>whnf);first|with_reducible apply af<;>intro _|refine aM.drawn aa rfl rfl ?_|with_reducible refine And.intro (aN.mk ⟨_,rfl,rfl⟩) ?_|(refine pw (i:=2) ?_;rw[lk 2 (by omega) (by omega)])|(refine (AD (ns:=((ns++[PN.leaf (nd.c.child 0)])++[PN.leaf (nd.c.child 1)])) (n:=n+2) (B:=B) (c:=nd.c.child 2) (by simp[hn]) (by omega)).use [0,7,2,3,4] rfl rfl ⟨⟨_,rfl,rfl⟩,⟨_,rfl,rfl⟩,⟨_,rfl,rfl⟩,⟨_,rfl,fun w S h=>rA w S h⟩,ko,tU⟩ ?_;rintro _ _ ⟨rfl,G1,G2,G3,rfl⟩;refine ⟨[8],?_⟩)|refine aO.of (k:=2) rfl (by omega) ?_)
 all_goals (try conv=>whnf)
 refine bS.sub [0,1,2,3,4,5,6,9] (l:=[(0,.ptr 0 0),(1,iA i),(4,.lit (.slice (some A) nd.l.length c0)),(5,.ptr 5 0),(6,.ptr 6 0),(29,iA 3)]) (H0:=[.cells [iA bk,.slice 7 0 (n+3) (.grown 10),.lit (.slice none 0 0),.map 2] DL,.dead,.bE (mE iK yS B),.res (eL ((ns++[PN.leaf (nd.c.child 0)])++[PN.leaf (nd.c.child 1)])),.res aB,.cells [iA nd.c.l,iA nd.c.x,iA nd.c.y] 232,.cells [iA (n:Nat),iA ((n+1:Nat):Int),iA ((n+2:Nat):Int),iA 0] 424,.row ((((ns++[PN.leaf (nd.c.child 0)])++[PN.leaf (nd.c.child 1)])++[PN.leaf (nd.c.child 2)]).flatMap Ae) C5]) ⟨rfl,⟨rr,rr,rr,rr,rr,⟨rfl,ax rfl (by decide)⟩,tU⟩,⟨⟨_,rfl,rfl⟩,⟨_,rfl,rfl⟩,⟨_,rfl,rfl⟩,ko,ko,⟨_,rfl,rfl⟩,⟨_,rfl,rfl⟩,⟨_,rfl,rfl⟩,tU⟩⟩ ?_;refine bS.step aa rfl ?_;repeat' ((conv=>whnf);first|with_reducible apply af<;>intro _|refine aM.drawn aa rfl rfl ?_|with_reducible refine And.intro (aN.mk ⟨_,rfl,rfl⟩) ?_|(refine pw (i:=3) ?_;rw[lk 3 (by omega) (by omega)])|(refine (AD (ns:=(((ns++[PN.leaf (nd.c.child 0)])++[PN.leaf (nd.c.child 1)])++[PN.leaf (nd.c.child 2)])) (n:=n+3) (B:=B) (c:=nd.c.child 3) (by simp[hn]) (by omega)).use [0,7,2,3,4] rfl rfl ⟨⟨_,rfl,rfl⟩,⟨_,rfl,rfl⟩,⟨_,rfl,rfl⟩,⟨_,rfl,fun w S h=>rA w S h⟩,ko,tU⟩ ?_;rintro _ _ ⟨rfl,G1,G2,G3,rfl⟩;refine ⟨[8],?_⟩)|refine aO.of (k:=3) rfl (by omega) ?_)
 all_goals (try conv=>whnf)
 refine bS.sub [0,1,2,3,4,5,6,9] (l:=[(0,.ptr 0 0),(1,iA i),(4,.lit (.slice (some A) nd.l.length c0)),(5,.ptr 5 0),(6,.ptr 6 0),(29,iA 4)]) (H0:=[.cells [iA bk,.slice 7 0 (n+4) (.grown 10),.lit (.slice none 0 0),.map 2] DL,.dead,.bE (mE iK yS B),.res (eL (((ns++[PN.leaf (nd.c.child 0)])++[PN.leaf (nd.c.child 1)])++[PN.leaf (nd.c.child 2)])),.res aB,.cells [iA nd.c.l,iA nd.c.x,iA nd.c.y] 232,.cells [iA (n:Nat),iA ((n+1:Nat):Int),iA ((n+2:Nat):Int),iA ((n+3:Nat):Int)] 424,.row (((((ns++[PN.leaf (nd.c.child 0)])++[PN.leaf (nd.c.child 1)])++[PN.leaf (nd.c.child 2)])++[PN.leaf (nd.c.child 3)]).flatMap Ae) C5]) ⟨rfl,⟨rr,rr,rr,rr,rr,⟨rfl,ax rfl (by decide)⟩,tU⟩,⟨⟨_,rfl,rfl⟩,⟨_,rfl,rfl⟩,⟨_,rfl,rfl⟩,ko,ko,⟨_,rfl,rfl⟩,⟨_,rfl,rfl⟩,⟨_,rfl,rfl⟩,tU⟩⟩ ?_;have KF:((((ns++[PN.leaf (nd.c.child 0)])++[PN.leaf (nd.c.child 1)])++[PN.leaf (nd.c.child 2)])++[PN.leaf (nd.c.child 3)])[i]?=some nd:=by
  rw[List.append_assoc,List.append_assoc,List.append_assoc,List.getElem?_append_left (de hi)];exact hi
 obtain ⟨ms,pj⟩:∃ms,ms=((((ns++[PN.leaf (nd.c.child 0)])++[PN.leaf (nd.c.child 1)])++[PN.leaf (nd.c.child 2)])++[PN.leaf (nd.c.child 3)]):=⟨_,rfl⟩;have cE:∀w S,(eL (((ns++[PN.leaf (nd.c.child 0)])++[PN.leaf (nd.c.child 1)])++[PN.leaf (nd.c.child 2)])).at_ w S->(eL ms).at_ w S:=fun w S h=>by rw[pj];exact rA w S h
 rw[<-pj] at KF ⊢;have h1:(ms.set i { nd with v:=aD })[i]?=some { nd with v:=aD }:=kO KF;have h2:(ms.set i { nd with v:=aD,split:=true })[i]?=some { nd with v:=aD,split:=true }:=kO KF;have h3:(ms.set i { nd with v:=aD,split:=true,k0:=(n:Nat),k1:=((n+1:Nat):Int),k2:=((n+2:Nat):Int),k3:=((n+3:Nat):Int) })[i]?=some { nd with v:=aD,split:=true,k0:=(n:Nat),k1:=((n+1:Nat):Int),k2:=((n+2:Nat):Int),k3:=((n+3:Nat):Int) }:=kO KF;have tn:ms.length=n+4:=by rw[pj];simp[hn]
 refine bS.step aa rfl ?_;repeat' ((conv=>whnf);first|with_reducible apply af<;>intro _|refine aM.drawn aa rfl rfl ?_|with_reducible refine And.intro (aN.mk ⟨_,rfl,rfl⟩) ?_|refine aO.of (k:=i) rfl (show i<n+4 by omega) ?_|(refine al.ow (j:=9) (x:={ nd with v:=aD }) cg KF rfl rfl rfl rfl rfl rfl rfl rfl rfl rfl rfl rfl ?_)|(refine al.ow (j:=8) (x:={ nd with v:=aD,split:=true }) cg h1 rfl rfl rfl rfl rfl rfl rfl rfl rfl rfl rfl rfl ?_;rw[List.set_set])|(refine al.ow (j:=3) (x:={ nd with v:=aD,split:=true,k0:=(n:Nat),k1:=((n+1:Nat):Int),k2:=((n+2:Nat):Int),k3:=((n+3:Nat):Int) }) cg h2 rfl rfl rfl rfl rfl rfl rfl rfl rfl rfl rfl rfl ?_;rw[List.set_set])|(refine al.ow (j:=7) (x:={ nd with v:=aD,split:=true,k0:=(n:Nat),k1:=((n+1:Nat):Int),k2:=((n+2:Nat):Int),k3:=((n+3:Nat):Int),many:=0,l:=[] }) cg h3 rfl rfl rfl rfl rfl rfl rfl rfl rfl rfl rfl rfl ?_;rw[List.set_set]))
 all_goals (try conv=>whnf)
 obtain ⟨p1,p2,p3,p4,p5⟩:=zJ hw (fh hi) (by simp) hs hl;rw[Ew (f:=ig bk f) (s:=⟨En ns,[]⟩) (fh hi)];have tv:rp ⟨En ns,[]⟩ i nd.er=⟨En (ms.set i { nd with v:=aD,split:=true,k0:=(n:Nat),k1:=((n+1:Nat):Int),k2:=((n+2:Nat):Int),k3:=((n+3:Nat):Int),many:=0,l:=[] }),[]⟩:=by
  rw[pj];simp[rp,dp,En,PN.leaf,PN.er,hn]
 rw[tv] at p1 p2 p3 p4 ⊢;refine aM.part (eL (ms.set i { nd with v:=aD,split:=true,k0:=(n:Nat),k1:=((n+1:Nat):Int),k2:=((n+2:Nat):Int),k3:=((n+3:Nat):Int),many:=0,l:=[] })) (aA kX 4 tZ nd.v nd.l) 3 rfl (fun w S h=>Lf KF rfl rfl w S (cE w S h)) rfl ?_;refine aM.nY 8 rfl (q:=cU Tryz.prog (aA kX 4 tZ nd.v nd.l) tZ 4 (some A) (fun r=>.agg (kX r).toArray) nd.l) (fun w S h=>cU.sl (c:=c0) aa qA ⟨_,rfl,rfl,rfl⟩ (fun w S h=>⟨_,by rw[<-hv];exact h.1.sl⟩) ⟨w,S,h⟩) fun hrv=>?_;refine aV aa rfl (fun s:Nat×List PN=>[(0,.ptr 0 0),(1,iA i),(63,.lit (.slice (some A) nd.l.length c0)),(64,iA nd.l.length),(65,iA (s.1:Nat))]) (fun s=>Q4 bk s.2 s.2.length B .nil++[.res (aA kX 4 tZ nd.v nd.l)])
  (fun s=>s.1<=nd.l.length/\oK bk QP ⟨En s.2,[]⟩/\(∃m,s.2[i]?=some m/\m.c=nd.c/\m.split=true)/\(s.1<=bk->ya ⟨En s.2,[]⟩ i nd.c s.1/\s.2.length<=n+4)/\iN (En s.2)+(nd.l.length - s.1)<=iN (En ns)/\(nd.l.drop s.1).foldl (fun s r=>ig bk f s i r) ⟨En s.2,[]⟩=nd.l.foldl (fun s r=>ig bk f s i r) ⟨En (ms.set i { nd with v:=aD,split:=true,k0:=(n:Nat),k1:=((n+1:Nat):Int),k2:=((n+2:Nat):Int),k3:=((n+3:Nat):Int),many:=0,l:=[] }),[]⟩)
  (fun s=>nd.l.length - s.1) (0,ms.set i { nd with v:=aD,split:=true,k0:=(n:Nat),k1:=((n+1:Nat):Int),k2:=((n+2:Nat):Int),k3:=((n+3:Nat):Int),many:=0,l:=[] }) ⟨Nat.zero_le _,p1,⟨_,kO KF,rfl,rfl⟩,fun _=>⟨p2,by simp[tn]⟩,by simp only[Nat.sub_zero];exact p4,rfl⟩ [0,1,2,3,4,7,8] ?_ ?_
 ·exact ⟨rfl,⟨rr,rr,rr,rr,rr,tU⟩,⟨⟨_,rfl,by simp[tn,pL,Q4];rfl⟩,⟨_,rfl,rfl⟩,⟨_,rfl,rfl⟩,ko,ko,⟨_,rfl,rfl⟩,ko,tU⟩⟩
 ·rintro ⟨q,lM⟩ ⟨q0,q1,⟨m,q2,q3,q4⟩,q5,q6,q7⟩;simp only[] at q0 q1 q2 q5 q6 q7;by_cases hq:q<nd.l.length
  ·obtain ⟨hF,Xo⟩:=q5 (by omega);have jN:iH m=15 - nd.c.l:=by unfold iH;rw[if_pos q4,q3]
   have eR:=Cw f ⟨En lM,[]⟩ i m.er nd.l[q] q1 (fh q2) (by simp) (by show 1+iH m<=f;rw[jN];omega) FP;have Xe:nd.l.drop q=nd.l[q]::nd.l.drop (q+1):=List.drop_eq_getElem_cons hq;rw[Xe,List.foldl_cons] at q7;conv=>whnf
   refine af (fun _=>?_) (bT hq);conv=>whnf
   refine al.bC aa rfl rfl rfl rfl rfl hq ?_;conv=>whnf
   obtain ⟨A',WT,bu⟩:=hrv.at hq;cases WT
   refine al.aR (i:=6) (v:=.agg (lE nd.l[q])) rfl (fun w S hR=>bu w S hR _ hq) rfl rfl ?_;have DB:nd.er.l.length<=iN (En ns):=M6 (fh hi);have DB:nd.l.length<=iN (En ns):=DB;have Z8:IntKind.i64.wrap ((q:Int)+1)=((q+1:Nat):Int):=ak (by omega) (by omega);have acw:(nd.l.drop q).length=nd.l.length - q:=List.length_drop;repeat' ((conv=>whnf);first|with_reducible apply af<;>intro _|refine aM.drawn aa rfl rfl ?_|with_reducible refine And.intro (aN.mk ⟨_,rfl,rfl⟩) ?_|(refine (Qk lM lM.length i m B nd.l[q] rfl q2 q1 (by rw[jN];omega) FP (by rw[jN];omega) (by omega)).use [0,5,2,3,4] rfl rfl ⟨⟨_,rfl,rfl⟩,⟨_,rfl,rfl⟩,⟨_,rfl,rfl⟩,ko,ko,tU⟩ ?_;rintro _ _ ⟨rfl,pX,e1,e2,hH⟩;rcases hH with rfl|rfl;refine ⟨[],?_⟩;rotate_left;refine ⟨[5],?_⟩))
   all_goals (try conv=>whnf)
   all_goals
    have heq:(⟨En pX,[]⟩:PS)=ig bk f ⟨En lM,[]⟩ i nd.l[q]:=by
     cases hp:ig bk f ⟨En lM,[]⟩ i nd.l[q]
     rw[hp] at e1 e2;simp only[] at e1 e2;rw[e1,e2]
    rw[<-heq] at eR q7
    obtain ⟨_,m2,k1,k2,k3⟩:=eR.keeps i m.er (fh q2) (by simp)
    obtain ⟨m3,k4,rfl⟩:=AN k1
    have k5:=eR.iN
    have J:q+1<=nd.l.length/\oK bk QP ⟨En pX,[]⟩/\(∃m,pX[i]?=some m/\m.c=nd.c/\m.split=true)/\(q+1<=bk->ya ⟨En pX,[]⟩ i nd.c (q+1)/\pX.length<=n+4)/\iN (En pX)+(nd.l.length - (q+1))<=iN (En ns)/\(nd.l.drop (q+1)).foldl (fun s r=>ig bk f s i r) ⟨En pX,[]⟩=nd.l.foldl (fun s r=>ig bk f s i r) ⟨En (ms.set i { nd with v:=aD,split:=true,k0:=(n:Nat),k1:=((n+1:Nat):Int),k2:=((n+2:Nat):Int),k3:=((n+3:Nat):Int),many:=0,l:=[] }),[]⟩:=by
     refine ⟨hq,eR.wf,⟨m3,k4,by rw[<-q3];exact k2,k3 q4⟩,fun hb=>?_,by simp only[] at k5;omega,q7⟩;obtain ⟨f',rfl⟩:∃g,f=g+1:=⟨f - 1,by omega⟩;obtain ⟨g1,g2⟩:=Cz (f:=f') (r:=nd.l[q]) hF (show q<bk by omega);rw[<-heq] at g1 g2;simp only[LQ] at g2;exact ⟨g1,by omega⟩
   ·exact ⟨(q+1,pX),[0,1,2,3,4,8,6],⟨J,by show nd.l.length - (q+1)<nd.l.length - q;omega⟩,rfl,⟨rr,rr,rr,rr,⟨rfl,ax rfl Z8⟩,tU⟩,⟨⟨_,rfl,rfl⟩,⟨_,rfl,rfl⟩,⟨_,rfl,rfl⟩,ko,ko,⟨_,rfl,rfl⟩,ko,tU⟩⟩
   ·exact ⟨(q+1,pX),[0,1,2,3,4,5,6],⟨J,by show nd.l.length - (q+1)<nd.l.length - q;omega⟩,rfl,⟨rr,rr,rr,rr,⟨rfl,ax rfl Z8⟩,tU⟩,⟨⟨_,rfl,rfl⟩,⟨_,rfl,rfl⟩,⟨_,rfl,rfl⟩,ko,ko,⟨_,rfl,rfl⟩,ko,tU⟩⟩
  ·obtain rfl:q=nd.l.length:=by omega
   rw[List.drop_length,List.foldl_nil] at q7;conv=>whnf
   refine af (cF hq) (fun _=>?_);conv=>whnf
   refine ⟨[5],?_⟩;conv=>whnf
   exact ⟨rfl,lM,congrArg PS.ns q7,(congrArg PS.fr q7).symm,.inr rfl⟩
theorem Je(bk:Nat):∀f,OX bk f
 | 0=>fun _ _ _ _ _ _ _ _ _ _ h1=>absurd h1 (by omega)
 | f+1=>Og (Lc (Je bk f))
