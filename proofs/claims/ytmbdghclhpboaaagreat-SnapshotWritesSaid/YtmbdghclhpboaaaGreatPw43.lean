/- Part of the proof: Rf28b LawWr Args. Conditions: as each states. -/
import Derived.Test.YtmbdghclhpboaaaGreatPw42
import Derived.Test.YtmbdghclhpboaaaGreatPw41
import Derived.ProofKit
import Derived.Deep.Fields
set_option linter.all false
set_option maxRecDepth 100000
set_option maxHeartbeats 8000000
namespace Go.Proofs.YtmbdghclhpboaaaGreat
open Ev Go.RowKit
theorem cX{A:Addr}{c k:Nat}{x:Int}{l:List UInt8}(h0:0<l.length)(h1:1<=k)(h2:k<=8)(hx:bm k x)(hl:l.length<=900000000):CP [] 36 [.lit (.slice (some A) l.length c),uA (IntKind.u64.wrap x),iA k] [.res (aB cj 1 cK (.slice (some A) l.length c) l)] (MX (l++bs k x)):=by
 rw[hx.u64];exact oV (List.length_pos_iff.1 h0) h1 h2 (by have:=hx.2.2;have:=hx.1;omega) hx.lt hl
theorem Ps{A:Addr}{c:Nat}{x:Int}{l:List UInt8}(h0:0<l.length)(hx:0<=x/\x<18446744073709551616)(hl:l.length<=900000000):CP [] 36 [.lit (.slice (some A) l.length c),uA x,iA (8:Nat)] [.res (aB cj 1 cK (.slice (some A) l.length c) l)] (MX (l++bZ 8 x.toNat)):=by
 have h:=oV (A:=A) (c:=c) (k:=8) (n:=x.toNat) (List.length_pos_iff.1 h0) (by decide) (by decide) (by omega) (yM (by omega)) hl;rw[Int.toNat_of_nonneg hx.1] at h;exact h
theorem HF{A:Addr}{c:Nat}{x0 y0 x1 y1:Int}{l:List UInt8}(h0:0<l.length)(h:oB (fX x0 y0 x1 y1))(hl:l.length<=850000000):CP [] 37 [.lit (.slice (some A) l.length c),.agg [iA x0,iA y0,iA x1,iA y1]] [.res (aB cj 1 cK (.slice (some A) l.length c) l)] (MX (l++[x0,y0,x1,y1].flatMap (bs 2))):=
 RQ (List.length_pos_iff.1 h0) (h (2,_) (by simp[fX])) hl
theorem dS{l:List UInt8}{k:Nat}{x:Int}:(l++bs k x).length=l.length+k:=by rw[List.length_append,bF]
theorem RF{R:aH}{q:bM}{tk:List iL}(h:q.Rd R)(hk:q.Tk R tk)(ho:CL q tk):CP [] 14 [.agg q.a] [.res R] (fun v H'=>∃A n d,d=oX q tk/\v=.lit (.slice (some A) d.length n)/\∃G1 G,H'=.res R::G1::.res (aB cj 1 cK (.slice (some A) d.length n) d)::G):=by
 obtain ⟨fin,pA⟩:∃fin,fin=oX q tk:=⟨_,rfl⟩;rw[<-pA];have gm:=h.ms;have gr:=h.rs;have gs:=h.ss;have ge:=h.es;have gt:=hk.rd;have gn:=hk.nt;have gk:=hk.el;rcases q with ⟨ms,nt,rs,ss,⟨⟨xt⟩⟩,es,past,om,ot,pd,os,oe,cm,ct,cr,cs,ce⟩;simp only[] at gm gr gs ge gt gn gk;subst gn;have sc:ms.length<=60000:=ho.ml;have wq:tk.length=ms.length:=ho.tl;have GY:rs.length<=60000:=ho.rl;have EP:ss.length<=60000:=ho.sl;have Ol:xt.length<=60000:=ho.xl;have EG:es.length<=60000:=ho.el;have KH:∀i (h:i<ms.length) (h2:i<tk.length),zO ms[i] tk[i].l:=ho.ms;have uX:∀x∈rs,oB (dL x):=ho.rs;have ER:∀x∈ss,oB (dM x):=ho.ss;have Jf:∀x∈es,oB (dF x):=ho.es;have q1:bm 2 (ms.length:Int):=yF sc;have QX:bm 8 past:=ho.past;have N9:=QX.u64;unfold oX preB AK E9 Fj Eu at pA;simp only[bM.s] at pA;clear h hk ho;refine ae U rfl ?_;refine eP.of rfl rfl ?_;refine aF.au fun F hF=>?_;repeat' ((conv=>whnf);first|with_reducible apply aa<;>intro _|refine aJ.drawn U rfl rfl ?_|with_reducible refine And.intro (aG.mk ⟨_,rfl,rfl⟩) ?_|refine And.intro (aG.mk ⟨_,rfl,tU⟩) ?_|(refine ag.pre (fP.more (R:=aB cj 1 cK aO []) rfl (bc.jn Hv _)) ?_;refine (Pq (k:=8) (n:=past.toNat) (by decide) (by decide) (by have:=QX.2.2;have:=QX.1;omega) QX.lt).use [2,3] (by rw[N9];rfl) rfl ⟨⟨_,rfl,rfl⟩,ko,tU⟩ ?_;rintro _ _ ⟨A0,n0,d0,lL,rfl,G,rfl⟩;have j6:=congrArg List.length lL;rw[bF] at j6;refine ⟨[],?_⟩)|(refine (cX (k:=2) (x:=(ms.length:Int)) (by omega) (by decide) (by decide) q1 (by omega)).use [3] rfl rfl ⟨ko,tU⟩ ?_;rintro _ _ ⟨A1,n1,d1,o6,rfl,G,rfl⟩;have kW:=congrArg List.length o6;rw[dS] at kW;refine ⟨[],?_⟩)|(show F _ _ _;subst hF;refine aF.au fun F hF=>?_)|(show F _ _ _;subst hF)|refine ae U rfl ?_)
 have o6:d1=[past].flatMap (bs 8)++[(ms.length:Int)].flatMap (bs 2):=by
  rw[o6,lL];simp
 have kW:d1.length=10:=by omega
 rw[<-o6] at pA;clear N9 lL j6 o6;refine aW U rfl (fun s:FG=>[(1,.ptr 1 0),(3,.lit s.v),(4,iA (s.i:Nat))]) (fun s=>[.res R,.cells (bM.a ⟨ms,tk.length,rs,ss,⟨⟨xt⟩⟩,es,past,om,ot,pd,os,oe,cm,ct,cr,cs,ce⟩) 28,.res (aB cj 1 cK s.v (d1++dw (ms.take s.i) (tk.take s.i)))]) (fun s=>s.i<=ms.length/\ep s.v (d1++dw (ms.take s.i) (tk.take s.i))) (fun s=>ms.length - s.i) ⟨0,.slice (some A1) d1.length n1⟩ ⟨Nat.zero_le _,.inr ⟨A1,n1,by simp[dw]⟩⟩ [0,1,3] ⟨rfl,⟨rr,rr,rr,tU⟩,⟨ko,⟨_,rfl,rfl⟩,⟨_,rfl,by simp only[List.take_zero,dw,List.zip_nil_left,List.flatMap_nil,List.append_nil];exact kp⟩,tU⟩⟩ ?_;rintro ⟨i,v⟩ ⟨j5,hv⟩;simp only[] at j5 hv;have hlen:(dw (ms.take i) (tk.take i)).length<=i * 300:=pI KH i j5 (by omega);have cF:(d1++dw (ms.take i) (tk.take i)).length<=20000000:=by rw[List.length_append];omega
 have lL:0<(d1++dw (ms.take i) (tk.take i)).length:=by rw[List.length_append];omega
 obtain ⟨A2,n2,rfl⟩:=lG hv (List.length_pos_iff.1 lL);by_cases hi:i<ms.length
 ·have kC:i<tk.length:=by omega
  have xz:zO ms[i] tk[i].l:=KH i hi kC;have pB:=gk _ (List.getElem_mem kC);obtain ⟨a1,rfl,nX⟩:=gm.at hi;obtain ⟨a2,rfl,dK⟩:=gt.at kC;have k1:=fun w S hw=>nX w S hw i hi;have k2:=fun w S hw=>dK w S hw i kC;have e:d1++dw (ms.take (i+1)) (tk.take (i+1))=d1++dw (ms.take i) (tk.take i)++yD ms[i] tk[i].l:=by rw[u7 hi kC,List.append_assoc]
  obtain ⟨d,hd⟩:∃d,d=d1++dw (ms.take i) (tk.take i):=⟨_,rfl⟩;obtain ⟨m,hm⟩:∃m,m=ms[i]:=⟨_,rfl⟩;obtain ⟨x,hx⟩:∃x,x=tk[i]:=⟨_,rfl⟩;simp only[<-hd,<-hm,<-hx] at cF lL e k1 k2 xz pB ⊢;clear gm gr gs ge gt gk nX dK KH uX ER Jf hd hm hx pA hv hlen;rcases x with ⟨xo,xc,xl⟩;simp only[] at xz pB e;have m0:bm 2 m.user:=xz.1 (2,[m.user]) (by simp[n9]) _ (by simp);have m1:bm 1 m.role:=xz.1 (1,[m.role,m.jq]) (by simp[n9]) _ (by simp);have m2:bm 1 m.jq:=xz.1 (1,[m.role,m.jq]) (by simp[n9]) _ (by simp);have m3:bm 2 m.fH:=xz.1 (2,[m.fH,m.k]) (by simp[n9]) _ (by simp);have m4:bm 2 m.k:=xz.1 (2,[m.fH,m.k]) (by simp[n9]) _ (by simp);have m5:=xz.2.1;have h8:xl.length<=8:=xz.2.2.1;have qi:∀k∈xl,zQ k:=xz.2.2.2;have m6:bm 1 (xl.length:Int):=⟨by omega,by show (xl.length:Int)<256;omega,by omega⟩;refine aF.au fun F2 bR=>?_;repeat' ((conv=>whnf);first|with_reducible apply aa<;>intro _|refine aJ.drawn U rfl rfl ?_|with_reducible refine And.intro (aG.mk ⟨_,rfl,rfl⟩) ?_|refine And.intro (aG.mk ⟨_,rfl,tU⟩) ?_|(exfalso;exact ck hi (by assumption))|refine ai.bJ U rfl rfl rfl rfl rfl hi ?_|refine ai.bJ U rfl rfl rfl rfl rfl kC ?_|refine ai.aR (i:=0) (v:=.agg (mA m)) rfl k1 rfl rfl ?_|refine ai.aR (i:=0) (v:=.lit (BZ ⟨xo,xc,xl⟩)) rfl k2 rfl rfl ?_|refine jJ.mk ?_ ?_|(refine (cX (k:=2) (x:=m.user) (by omega) (by decide) (by decide) m0 (by omega)).use [2] rfl rfl ⟨ko,tU⟩ ?_;rintro _ _ ⟨An,nn,dn,o7,rfl,G,rfl⟩;have fD:=congrArg List.length o7;rw[dS] at fD;refine ⟨[],?_⟩)|(refine (cX (k:=1) (x:=m.role) (by omega) (by decide) (by decide) m1 (by omega)).use [2] rfl rfl ⟨ko,tU⟩ ?_;rintro _ _ ⟨An,nn,dn,o7,rfl,G,rfl⟩;have fD:=congrArg List.length o7;rw[dS] at fD;refine ⟨[],?_⟩)|(refine (cX (k:=1) (x:=m.jq) (by omega) (by decide) (by decide) m2 (by omega)).use [2] rfl rfl ⟨ko,tU⟩ ?_;rintro _ _ ⟨An,nn,dn,o7,rfl,G,rfl⟩;have fD:=congrArg List.length o7;rw[dS] at fD;refine ⟨[],?_⟩)|(refine (cX (k:=2) (x:=m.fH) (by omega) (by decide) (by decide) m3 (by omega)).use [2] rfl rfl ⟨ko,tU⟩ ?_;rintro _ _ ⟨An,nn,dn,o7,rfl,G,rfl⟩;have fD:=congrArg List.length o7;rw[dS] at fD;refine ⟨[],?_⟩)|(refine (cX (k:=2) (x:=m.k) (by omega) (by decide) (by decide) m4 (by omega)).use [2] rfl rfl ⟨ko,tU⟩ ?_;rintro _ _ ⟨An,nn,dn,o7,rfl,G,rfl⟩;have fD:=congrArg List.length o7;rw[dS] at fD;refine ⟨[],?_⟩)|(refine (Ps (x:=m.cf) (by omega) m5 (by omega)).use [2] rfl rfl ⟨ko,tU⟩ ?_;rintro _ _ ⟨An,nn,dn,o7,rfl,G,rfl⟩;have fD:=congrArg List.length o7;rw[bE] at fD;refine ⟨[],?_⟩)|(refine (cX (k:=1) (x:=(xl.length:Int)) (by omega) (by decide) (by decide) m6 (by omega)).use [2] rfl rfl ⟨ko,tU⟩ ?_;rintro _ _ ⟨An,nn,dn,o7,rfl,G,rfl⟩;have fD:=congrArg List.length o7;rw[dS] at fD;refine ⟨[],?_⟩)|(show F2 _ _ _;subst bR;refine aF.au fun F2 bR=>?_)|(show F2 _ _ _;subst bR)|(show F _ _ _;subst hF;refine aF.au fun F hF=>?_)|(show F _ _ _;subst hF)|refine ae U rfl ?_)
  all_goals (try conv=>whnf)
  have e3:d1++dw (ms.take (i+1)) (tk.take (i+1))=dn++xl.flatMap gx:=by
   rw[e];clear k1 k2 e;subst_vars;simp[yD,wB,n9,cD,List.append_assoc]
  have ZJ:dn.length<=30000000:=by omega
  have ZI:0<dn.length:=by omega
  clear e;refine aW U rfl (fun s:FG=>[(1,.ptr 1 0),(3,.lit s.v),(4,iA (i:Nat)),(6,iA (s.i:Nat))]) (fun s=>[.res R,.cells (bM.a ⟨ms,tk.length,rs,ss,⟨⟨xt⟩⟩,es,past,some a1,some a2,pd,os,oe,cm,ct,cr,cs,ce⟩) 28,.res (aB cj 1 cK s.v (dn++(xl.take s.i).flatMap gx))]) (fun s=>s.i<=xl.length/\ep s.v (dn++(xl.take s.i).flatMap gx)) (fun s=>xl.length - s.i) ⟨0,.slice (some An) dn.length nn⟩ ⟨Nat.zero_le _,.inr ⟨An,nn,by simp⟩⟩ [0,1,2] ⟨rfl,⟨rr,rr,rr,rr,tU⟩,⟨ko,⟨_,rfl,rfl⟩,⟨_,rfl,by simp only[List.take_zero,List.flatMap_nil,List.append_nil];exact kp⟩,tU⟩⟩ ?_;rintro ⟨j,v⟩ ⟨Ji,hv⟩;simp only[] at Ji hv;have hlen:((xl.take j).flatMap gx).length<=8 * 31:=by rw[ee BX,List.length_take];exact Nat.mul_le_mul_right _ (by omega)
  have SI:(dn++(xl.take j).flatMap gx).length<=40000000:=by rw[List.length_append];omega
  have NU:0<(dn++(xl.take j).flatMap gx).length:=by rw[List.length_append];omega
  obtain ⟨A3,n3,rfl⟩:=lG hv (List.length_pos_iff.1 NU);by_cases hj:j<xl.length
  ·have sa:=qi _ (List.getElem_mem hj);obtain ⟨a3,rfl,SU⟩:=pB.at hj;have k3:=fun w S hw=>SU w S hw j hj;have e4:dn++(xl.take (j+1)).flatMap gx=dn++(xl.take j).flatMap gx++gx xl[j]:=by
    rw[bf hj,List.flatMap_append,List.append_assoc];simp
   obtain ⟨b,hb⟩:∃b,b=dn++(xl.take j).flatMap gx:=⟨_,rfl⟩;obtain ⟨k,hk⟩:∃k,k=xl[j]:=⟨_,rfl⟩;simp only[<-hb,<-hk] at SI NU e4 k3 sa ⊢;have t0:=sa.2.1;have t1:=sa.2.2;have t2:bm 1 k.g.ops:=sa.1 (1,[k.g.ops,k.g.bO,ph k.g.void]) (by simp[jG]) _ (by simp);have t3:bm 1 k.g.bO:=sa.1 (1,[k.g.ops,k.g.bO,ph k.g.void]) (by simp[jG]) _ (by simp);have t4:oB (fX k.g.x0 k.g.y0 k.g.x1 k.g.y1):=fun p hp=>sa.1 p (by rw[List.mem_singleton.1 hp];simp[jG]);have t5:bm 4 k.g.mY:=sa.1 (4,[k.g.mY]) (by simp[jG]) _ (by simp);clear hb hk SU pB qi xz e3 hv hlen;refine aF.au fun F3 Ul=>?_;repeat' ((conv=>whnf);first|with_reducible apply aa<;>intro _|refine aJ.drawn U rfl rfl ?_|with_reducible refine And.intro (aG.mk ⟨_,rfl,rfl⟩) ?_|refine And.intro (aG.mk ⟨_,rfl,tU⟩) ?_|(exfalso;exact ck hj (by assumption))|refine ai.bJ U rfl rfl rfl rfl rfl kC ?_|refine ai.aR (i:=0) (v:=.lit (BZ ⟨some a3,xc,xl⟩)) rfl k2 rfl rfl ?_|refine ai.bJ U rfl rfl rfl rfl rfl hj ?_|refine ai.aR (i:=0) (v:=.agg (vB k)) rfl k3 rfl rfl ?_|refine jJ.mk ?_ ?_|(refine (oV (k:=8) (n:=k.bC) (List.length_pos_iff.1 (by omega)) (by decide) (by decide) t0 (yM t0) (by omega)).use [2] rfl rfl ⟨ko,tU⟩ ?_;rintro _ _ ⟨Am,nm,dm,hJ,rfl,G,rfl⟩;have gi:=congrArg List.length hJ;rw[bE] at gi;refine ⟨[],?_⟩)|(refine (oV (k:=8) (n:=k.parent) (List.length_pos_iff.1 (by omega)) (by decide) (by decide) t1 (yM t1) (by omega)).use [2] rfl rfl ⟨ko,tU⟩ ?_;rintro _ _ ⟨Am,nm,dm,hJ,rfl,G,rfl⟩;have gi:=congrArg List.length hJ;rw[bE] at gi;refine ⟨[],?_⟩)|(refine (cX (k:=1) (x:=k.g.ops) (by omega) (by decide) (by decide) t2 (by omega)).use [2] rfl rfl ⟨ko,tU⟩ ?_;rintro _ _ ⟨Am,nm,dm,hJ,rfl,G,rfl⟩;have gi:=congrArg List.length hJ;rw[dS] at gi;refine ⟨[],?_⟩)|(refine (cX (k:=1) (x:=k.g.bO) (by omega) (by decide) (by decide) t3 (by omega)).use [2] rfl rfl ⟨ko,tU⟩ ?_;rintro _ _ ⟨Am,nm,dm,hJ,rfl,G,rfl⟩;have gi:=congrArg List.length hJ;rw[dS] at gi;refine ⟨[],?_⟩)|(refine (oV (k:=1) (n:=1) (List.length_pos_iff.1 (by omega)) (by decide) (by decide) (by decide) (by decide) (by omega)).use [2] rfl rfl ⟨ko,tU⟩ ?_;rintro _ _ ⟨Am,nm,dm,hJ,rfl,G,rfl⟩;have gi:=congrArg List.length hJ;rw[bE] at gi;refine ⟨[],?_⟩)|(refine (oV (k:=1) (n:=0) (List.length_pos_iff.1 (by omega)) (by decide) (by decide) (by decide) (by decide) (by omega)).use [2] rfl rfl ⟨ko,tU⟩ ?_;rintro _ _ ⟨Am,nm,dm,hJ,rfl,G,rfl⟩;have gi:=congrArg List.length hJ;rw[bE] at gi;refine ⟨[],?_⟩)|(refine (HF (x0:=k.g.x0) (y0:=k.g.y0) (x1:=k.g.x1) (y1:=k.g.y1) (by omega) t4 (by omega)).use [2] rfl rfl ⟨ko,tU⟩ ?_;rintro _ _ ⟨Am,nm,dm,hJ,rfl,G,rfl⟩;have gi:=congrArg List.length hJ;rw[cu] at gi;simp only[List.length_cons,List.length_nil] at gi;refine ⟨[],?_⟩)|(refine (cX (k:=4) (x:=k.g.mY) (by omega) (by decide) (by decide) t5 (by omega)).use [2] rfl rfl ⟨ko,tU⟩ ?_;rintro _ _ ⟨Am,nm,dm,hJ,rfl,G,rfl⟩;have gi:=congrArg List.length hJ;rw[dS] at gi;refine ⟨[],?_⟩)|(show F3 _ _ _;subst Ul;refine aF.au fun F3 Ul=>?_)|(show F3 _ _ _;subst Ul)|(show F2 _ _ _;subst bR;refine aF.au fun F2 bR=>?_)|(show F2 _ _ _;subst bR)|(show F _ _ _;subst hF;refine aF.au fun F hF=>?_)|(show F _ _ _;subst hF)|refine ae U rfl ?_)
   all_goals (try conv=>whnf)
   all_goals
    have hz:dm=b++gx k:=by
     first
      | (have U7:k.g.void=true:=by assumption
         clear k1 k2 k3 e4
         subst_vars
         simp[gx,wB,jG,ph,U7,List.append_assoc]
         rfl)
      | (have U7:k.g.void=false:=by assumption
         clear k1 k2 k3 e4
         subst_vars
         simp[gx,wB,jG,ph,U7,List.append_assoc]
         rfl)
    exact ⟨⟨j+1,.slice (some Am) dm.length nm⟩,[0,1,2],⟨⟨hj,.inr ⟨Am,nm,by rw[e4,<-hz]⟩⟩,Nat.sub_lt_sub_left hj (Nat.lt_succ_self _)⟩,rfl,⟨rr,rr,rr,⟨rfl,aw rfl (aj (by first|omega|(simp only[];omega)) (by first|omega|(simp only[];omega)))⟩,tU⟩,⟨ko,⟨_,rfl,rfl⟩,⟨_,rfl,by simp only[e4,<-hz];exact kp⟩,tU⟩⟩
  ·obtain rfl:j=xl.length:=by omega
   have hz:d1++dw (ms.take (i+1)) (tk.take (i+1))=dn++(xl.take xl.length).flatMap gx:=by rw[List.take_length,e3]
   obtain ⟨b,hb⟩:∃b,b=dn++(xl.take xl.length).flatMap gx:=⟨_,rfl⟩;simp only[<-hb] at hz ⊢;clear e3 hb hv hlen SI NU;repeat' ((conv=>whnf);first|with_reducible apply aa<;>intro _|refine aJ.drawn U rfl rfl ?_|with_reducible refine And.intro (aG.mk ⟨_,rfl,rfl⟩) ?_|refine And.intro (aG.mk ⟨_,rfl,tU⟩) ?_|(exfalso;exact cI hj (by assumption))|refine ai.bJ U rfl rfl rfl rfl rfl kC ?_|refine ai.aR (i:=0) (v:=.lit (BZ ⟨xo,xc,xl⟩)) rfl k2 rfl rfl ?_|refine jJ.mk ?_ ?_|(show F2 _ _ _;subst bR;refine aF.au fun F2 bR=>?_)|(show F2 _ _ _;subst bR)|(show F _ _ _;subst hF;refine aF.au fun F hF=>?_)|(show F _ _ _;subst hF)|refine ae U rfl ?_)
   all_goals (try conv=>whnf)
   exact ⟨⟨i+1,.slice (some A3) b.length n3⟩,[0,1,2],⟨⟨hi,.inr ⟨A3,n3,by rw[hz]⟩⟩,Nat.sub_lt_sub_left hi (Nat.lt_succ_self _)⟩,rfl,⟨rr,rr,⟨rfl,aw rfl (aj (by first|omega|(simp only[];omega)) (by first|omega|(simp only[];omega)))⟩,tU⟩,⟨ko,⟨_,rfl,rfl⟩,⟨_,rfl,by simp only[hz];exact kp⟩,tU⟩⟩
 obtain rfl:i=ms.length:=by omega
 have Cv:tk.take ms.length=tk:=by rw[<-wq];exact List.take_length
 have e0:d1++dw (ms.take ms.length) (tk.take ms.length)=d1++dw ms tk:=by rw[List.take_length,Cv]
 simp only[e0] at cF lL ⊢;obtain ⟨c1,QG⟩:∃c1,c1=d1++dw ms tk:=⟨_,rfl⟩;simp only[<-QG] at cF lL pA ⊢;clear hv hlen QG e0 Cv gm gt gk KH;have p1:bm 2 (rs.length:Int):=yF GY;have p2:bm 2 (ss.length:Int):=yF EP;have p3:bm 2 (xt.length:Int):=yF Ol;have p4:bm 4 (es.length:Int):=S4 EG;repeat' ((conv=>whnf);first|with_reducible apply aa<;>intro _|refine aJ.drawn U rfl rfl ?_|with_reducible refine And.intro (aG.mk ⟨_,rfl,rfl⟩) ?_|refine And.intro (aG.mk ⟨_,rfl,tU⟩) ?_|(exfalso;exact cI hi (by assumption))|(refine (cX (k:=2) (x:=(rs.length:Int)) (by omega) (by decide) (by decide) p1 (by omega)).use [2] rfl rfl ⟨ko,tU⟩ ?_;rintro _ _ ⟨An,nn,dn,o7,rfl,G,rfl⟩;have fD:=congrArg List.length o7;rw[dS] at fD;refine ⟨[],?_⟩)|(show F _ _ _;subst hF;refine aF.au fun F hF=>?_)|(show F _ _ _;subst hF)|refine ae U rfl ?_)
 clear hi;have g1:dn.length<=21000000:=by omega
 have g1':0<dn.length:=by omega
 refine aW U rfl (fun s:FG=>[(1,.ptr 1 0),(3,.lit s.v),(9,iA (s.i:Nat))]) (fun s=>[.res R,.cells (bM.a ⟨ms,tk.length,rs,ss,⟨⟨xt⟩⟩,es,past,om,ot,pd,os,oe,cm,ct,cr,cs,ce⟩) 28,.res (aB cj 1 cK s.v (dn++(rs.take s.i).flatMap (fun x=>wB (dL x))))]) (fun s=>s.i<=rs.length/\ep s.v (dn++(rs.take s.i).flatMap (fun x=>wB (dL x)))) (fun s=>rs.length - s.i) ⟨0,.slice (some An) dn.length nn⟩ ⟨Nat.zero_le _,.inr ⟨An,nn,by simp⟩⟩ [0,1,2] ⟨rfl,⟨rr,rr,rr,tU⟩,⟨ko,⟨_,rfl,rfl⟩,⟨_,rfl,by simp only[List.take_zero,List.flatMap_nil,List.append_nil];exact kp⟩,tU⟩⟩ ?_;rintro ⟨i,v⟩ ⟨j5,hv⟩;simp only[] at j5 hv;have hlen:((rs.take i).flatMap (fun x=>wB (dL x))).length<=60000 * 7:=by rw[ee (fun r=>wO r),List.length_take];exact Nat.mul_le_mul_right _ (by omega)
 have cF:(dn++(rs.take i).flatMap (fun x=>wB (dL x))).length<=21000000+1000000:=by rw[List.length_append];omega
 have lL:0<(dn++(rs.take i).flatMap (fun x=>wB (dL x))).length:=by rw[List.length_append];omega
 obtain ⟨A2,n2,rfl⟩:=lG hv (List.length_pos_iff.1 lL);by_cases hi:i<rs.length
 ·have qi:=uX _ (List.getElem_mem hi);obtain ⟨a1,rfl,nX⟩:=gr.at hi;have k1:=fun w S hw=>nX w S hw i hi;have e:dn++(rs.take (i+1)).flatMap (fun x=>wB (dL x))=dn++(rs.take i).flatMap (fun x=>wB (dL x))++(fun x=>wB (dL x)) rs[i]:=by
   rw[bf hi,List.flatMap_append,List.append_assoc];simp
  obtain ⟨d,hd⟩:∃d,d=dn++(rs.take i).flatMap (fun x=>wB (dL x)):=⟨_,rfl⟩;obtain ⟨m,hm⟩:∃m,m=rs[i]:=⟨_,rfl⟩;simp only[<-hd,<-hm] at cF lL e k1 qi ⊢;clear gr gs ge nX uX ER Jf hd hm pA hv hlen;have m0:bm 2 m.id:=qi (2,[m.id,m.x,m.y]) (by simp[dL]) _ (by simp);have m1:bm 2 m.x:=qi (2,[m.id,m.x,m.y]) (by simp[dL]) _ (by simp);have m2:bm 2 m.y:=qi (2,[m.id,m.x,m.y]) (by simp[dL]) _ (by simp);have m3:bm 1 m.label:=qi (1,[m.label]) (by simp[dL]) _ (by simp);refine aF.au fun F2 bR=>?_;repeat' ((conv=>whnf);first|with_reducible apply aa<;>intro _|refine aJ.drawn U rfl rfl ?_|with_reducible refine And.intro (aG.mk ⟨_,rfl,rfl⟩) ?_|refine And.intro (aG.mk ⟨_,rfl,tU⟩) ?_|(exfalso;exact ck hi (by assumption))|refine ai.bJ U rfl rfl rfl rfl rfl hi ?_|refine ai.aR (i:=0) (v:=.agg (mF m)) rfl k1 rfl rfl ?_|refine jJ.mk ?_ ?_|(refine (cX (k:=2) (x:=m.id) (by omega) (by decide) (by decide) m0 (by omega)).use [2] rfl rfl ⟨ko,tU⟩ ?_;rintro _ _ ⟨Am,nm,dm,hJ,rfl,G,rfl⟩;have gi:=congrArg List.length hJ;rw[dS] at gi;refine ⟨[],?_⟩)|(refine (cX (k:=2) (x:=m.x) (by omega) (by decide) (by decide) m1 (by omega)).use [2] rfl rfl ⟨ko,tU⟩ ?_;rintro _ _ ⟨Am,nm,dm,hJ,rfl,G,rfl⟩;have gi:=congrArg List.length hJ;rw[dS] at gi;refine ⟨[],?_⟩)|(refine (cX (k:=2) (x:=m.y) (by omega) (by decide) (by decide) m2 (by omega)).use [2] rfl rfl ⟨ko,tU⟩ ?_;rintro _ _ ⟨Am,nm,dm,hJ,rfl,G,rfl⟩;have gi:=congrArg List.length hJ;rw[dS] at gi;refine ⟨[],?_⟩)|(refine (cX (k:=1) (x:=m.label) (by omega) (by decide) (by decide) m3 (by omega)).use [2] rfl rfl ⟨ko,tU⟩ ?_;rintro _ _ ⟨Am,nm,dm,hJ,rfl,G,rfl⟩;have gi:=congrArg List.length hJ;rw[dS] at gi;refine ⟨[],?_⟩)|(show F2 _ _ _;subst bR;refine aF.au fun F2 bR=>?_)|(show F2 _ _ _;subst bR)|(show F _ _ _;subst hF;refine aF.au fun F hF=>?_)|(show F _ _ _;subst hF)|refine ae U rfl ?_)
  all_goals (try conv=>whnf)
  have hz:dm=d++(fun x=>wB (dL x)) m:=by
   clear k1 e;subst_vars;simp[wB,dL,fX,List.append_assoc]
  exact ⟨⟨i+1,.slice (some Am) dm.length nm⟩,[0,1,2],⟨⟨hi,.inr ⟨Am,nm,by rw[e,<-hz]⟩⟩,Nat.sub_lt_sub_left hi (Nat.lt_succ_self _)⟩,rfl,⟨rr,rr,⟨rfl,aw rfl (aj (by first|omega|(simp only[];omega)) (by first|omega|(simp only[];omega)))⟩,tU⟩,⟨ko,⟨_,rfl,rfl⟩,⟨_,rfl,by simp only[e,<-hz];exact kp⟩,tU⟩⟩
 obtain rfl:i=rs.length:=by omega
 have e0:dn++(rs.take rs.length).flatMap (fun x=>wB (dL x))=dn++rs.flatMap (fun x=>wB (dL x)):=by rw[List.take_length]
 simp only[e0] at cF lL ⊢;obtain ⟨c2,LI⟩:∃c,c=dn++rs.flatMap (fun x=>wB (dL x)):=⟨_,rfl⟩;simp only[<-LI] at cF lL ⊢;clear hv hlen e0;repeat' ((conv=>whnf);first|with_reducible apply aa<;>intro _|refine aJ.drawn U rfl rfl ?_|with_reducible refine And.intro (aG.mk ⟨_,rfl,rfl⟩) ?_|refine And.intro (aG.mk ⟨_,rfl,tU⟩) ?_|(exfalso;exact cI hi (by assumption))|(refine (cX (k:=2) (x:=(ss.length:Int)) (by omega) (by decide) (by decide) p2 (by omega)).use [2] rfl rfl ⟨ko,tU⟩ ?_;rintro _ _ ⟨An,nn,dn,o7,rfl,G,rfl⟩;have fD:=congrArg List.length o7;rw[dS] at fD;refine ⟨[],?_⟩)|(show F _ _ _;subst hF;refine aF.au fun F hF=>?_)|(show F _ _ _;subst hF)|refine ae U rfl ?_)
 clear hi;have g1:dn.length<=23000000:=by omega
 have g1':0<dn.length:=by omega
 refine aW U rfl (fun s:FG=>[(1,.ptr 1 0),(3,.lit s.v),(11,iA (s.i:Nat))]) (fun s=>[.res R,.cells (bM.a ⟨ms,tk.length,rs,ss,⟨⟨xt⟩⟩,es,past,om,ot,pd,os,oe,cm,ct,cr,cs,ce⟩) 28,.res (aB cj 1 cK s.v (dn++(ss.take s.i).flatMap (fun x=>wB (dM x))))]) (fun s=>s.i<=ss.length/\ep s.v (dn++(ss.take s.i).flatMap (fun x=>wB (dM x)))) (fun s=>ss.length - s.i) ⟨0,.slice (some An) dn.length nn⟩ ⟨Nat.zero_le _,.inr ⟨An,nn,by simp⟩⟩ [0,1,2] ⟨rfl,⟨rr,rr,rr,tU⟩,⟨ko,⟨_,rfl,rfl⟩,⟨_,rfl,by simp only[List.take_zero,List.flatMap_nil,List.append_nil];exact kp⟩,tU⟩⟩ ?_;rintro ⟨i,v⟩ ⟨j5,hv⟩;simp only[] at j5 hv;have hlen:((ss.take i).flatMap (fun x=>wB (dM x))).length<=60000 * 11:=by rw[ee (fun r=>wV r),List.length_take];exact Nat.mul_le_mul_right _ (by omega)
 have cF:(dn++(ss.take i).flatMap (fun x=>wB (dM x))).length<=23000000+1000000:=by rw[List.length_append];omega
 have lL:0<(dn++(ss.take i).flatMap (fun x=>wB (dM x))).length:=by rw[List.length_append];omega
 obtain ⟨A2,n2,rfl⟩:=lG hv (List.length_pos_iff.1 lL);by_cases hi:i<ss.length
 ·have qi:=ER _ (List.getElem_mem hi);obtain ⟨a1,rfl,nX⟩:=gs.at hi;have k1:=fun w S hw=>nX w S hw i hi;have e:dn++(ss.take (i+1)).flatMap (fun x=>wB (dM x))=dn++(ss.take i).flatMap (fun x=>wB (dM x))++(fun x=>wB (dM x)) ss[i]:=by
   rw[bf hi,List.flatMap_append,List.append_assoc];simp
  obtain ⟨d,hd⟩:∃d,d=dn++(ss.take i).flatMap (fun x=>wB (dM x)):=⟨_,rfl⟩;obtain ⟨m,hm⟩:∃m,m=ss[i]:=⟨_,rfl⟩;simp only[<-hd,<-hm] at cF lL e k1 qi ⊢;clear gr gs ge nX uX ER Jf hd hm pA hv hlen;have m0:bm 2 m.id:=qi (2,[m.id]) (by simp[dM]) _ (by simp);have m1:oB (fX m.x0 m.y0 m.x1 m.y1):=fun p hp=>qi p (by rw[List.mem_singleton.1 hp];simp[dM]);have m2:bm 1 m.label:=qi (1,[m.label]) (by simp[dM]) _ (by simp);refine aF.au fun F2 bR=>?_;repeat' ((conv=>whnf);first|with_reducible apply aa<;>intro _|refine aJ.drawn U rfl rfl ?_|with_reducible refine And.intro (aG.mk ⟨_,rfl,rfl⟩) ?_|refine And.intro (aG.mk ⟨_,rfl,tU⟩) ?_|(exfalso;exact ck hi (by assumption))|refine ai.bJ U rfl rfl rfl rfl rfl hi ?_|refine ai.aR (i:=0) (v:=.agg (sM m)) rfl k1 rfl rfl ?_|refine jJ.mk ?_ ?_|(refine (cX (k:=2) (x:=m.id) (by omega) (by decide) (by decide) m0 (by omega)).use [2] rfl rfl ⟨ko,tU⟩ ?_;rintro _ _ ⟨Am,nm,dm,hJ,rfl,G,rfl⟩;have gi:=congrArg List.length hJ;rw[dS] at gi;refine ⟨[],?_⟩)|(refine (HF (x0:=m.x0) (y0:=m.y0) (x1:=m.x1) (y1:=m.y1) (by omega) m1 (by omega)).use [2] rfl rfl ⟨ko,tU⟩ ?_;rintro _ _ ⟨Am,nm,dm,hJ,rfl,G,rfl⟩;have gi:=congrArg List.length hJ;rw[cu] at gi;simp only[List.length_cons,List.length_nil] at gi;refine ⟨[],?_⟩)|(refine (cX (k:=1) (x:=m.label) (by omega) (by decide) (by decide) m2 (by omega)).use [2] rfl rfl ⟨ko,tU⟩ ?_;rintro _ _ ⟨Am,nm,dm,hJ,rfl,G,rfl⟩;have gi:=congrArg List.length hJ;rw[dS] at gi;refine ⟨[],?_⟩)|(show F2 _ _ _;subst bR;refine aF.au fun F2 bR=>?_)|(show F2 _ _ _;subst bR)|(show F _ _ _;subst hF;refine aF.au fun F hF=>?_)|(show F _ _ _;subst hF)|refine ae U rfl ?_)
  all_goals (try conv=>whnf)
  have hz:dm=d++(fun x=>wB (dM x)) m:=by
   clear k1 e;subst_vars;simp[wB,dM,fX,List.append_assoc]
  exact ⟨⟨i+1,.slice (some Am) dm.length nm⟩,[0,1,2],⟨⟨hi,.inr ⟨Am,nm,by rw[e,<-hz]⟩⟩,Nat.sub_lt_sub_left hi (Nat.lt_succ_self _)⟩,rfl,⟨rr,rr,⟨rfl,aw rfl (aj (by first|omega|(simp only[];omega)) (by first|omega|(simp only[];omega)))⟩,tU⟩,⟨ko,⟨_,rfl,rfl⟩,⟨_,rfl,by simp only[e,<-hz];exact kp⟩,tU⟩⟩
 obtain rfl:i=ss.length:=by omega
 have e0:dn++(ss.take ss.length).flatMap (fun x=>wB (dM x))=dn++ss.flatMap (fun x=>wB (dM x)):=by rw[List.take_length]
 simp only[e0] at cF lL ⊢;obtain ⟨c3,NQ⟩:∃c,c=dn++ss.flatMap (fun x=>wB (dM x)):=⟨_,rfl⟩;simp only[<-NQ] at cF lL ⊢;clear hv hlen e0;repeat' ((conv=>whnf);first|with_reducible apply aa<;>intro _|refine aJ.drawn U rfl rfl ?_|with_reducible refine And.intro (aG.mk ⟨_,rfl,rfl⟩) ?_|refine And.intro (aG.mk ⟨_,rfl,tU⟩) ?_|(exfalso;exact cI hi (by assumption))|(refine (cX (k:=2) (x:=(xt.length:Int)) (by omega) (by decide) (by decide) p3 (by omega)).use [2] rfl rfl ⟨ko,tU⟩ ?_;rintro _ _ ⟨An,nn,dn,o7,rfl,G,rfl⟩;have fD:=congrArg List.length o7;rw[dS] at fD;refine ⟨[],?_⟩)|(show F _ _ _;subst hF;refine aF.au fun F hF=>?_)|(show F _ _ _;subst hF)|refine ae U rfl ?_)
 clear hi;have g1:dn.length<=25000000:=by omega
 have g1':0<dn.length:=by omega
 refine aW U rfl (fun s:FG=>[(1,.ptr 1 0),(3,.lit s.v),(13,iA (s.i:Nat))]) (fun s=>[.res R,.cells (bM.a ⟨ms,tk.length,rs,ss,⟨⟨xt⟩⟩,es,past,om,ot,pd,os,oe,cm,ct,cr,cs,ce⟩) 28,.res (aB cj 1 cK s.v (dn++xt.take s.i))]) (fun s=>s.i<=xt.length/\ep s.v (dn++xt.take s.i)) (fun s=>xt.length - s.i) ⟨0,.slice (some An) dn.length nn⟩ ⟨Nat.zero_le _,.inr ⟨An,nn,by simp⟩⟩ [0,1,2] ⟨rfl,⟨rr,rr,rr,tU⟩,⟨ko,⟨_,rfl,rfl⟩,⟨_,rfl,by simp only[List.take_zero,List.append_nil];exact kp⟩,tU⟩⟩ ?_;rintro ⟨i,v⟩ ⟨j5,hv⟩;simp only[] at j5 hv;have cF:(dn++xt.take i).length<=26000000:=by rw[List.length_append,List.length_take];omega
 have lL:0<(dn++xt.take i).length:=by rw[List.length_append];omega
 obtain ⟨A2,n2,rfl⟩:=lG hv (List.length_pos_iff.1 lL);by_cases hi:i<xt.length
 ·have e:dn++xt.take (i+1)=dn++xt.take i++[xt[i]]:=by rw[bf hi,List.append_assoc]
  obtain ⟨d,hd⟩:∃d,d=dn++xt.take i:=⟨_,rfl⟩;simp only[<-hd] at cF lL e ⊢;clear gr gs ge uX ER Jf hd pA hv;refine aF.au fun F2 bR=>?_;repeat' ((conv=>whnf);first|with_reducible apply aa<;>intro _|refine aJ.drawn U rfl rfl ?_|with_reducible refine And.intro (aG.mk ⟨_,rfl,rfl⟩) ?_|refine And.intro (aG.mk ⟨_,rfl,tU⟩) ?_|(exfalso;exact ck hi (by assumption))|refine ai.ej (l:=xt) (k:=i) rfl rfl rfl rfl rfl hi ?_|(refine ai.om (eU.k9 U sW gO (by decide) s8 (i:=2) (y:=xt[i]) (l:=d) (v:=.slice (some A2) d.length n2) (R1:=aA) (R':=fun v'=>aB cj 1 cK v' (d++[xt[i]])) rfl rfl rfl rfl rfl rfl rfl me (fun v'=>oD) (by omega) ?_);intro Am nm)|(show F2 _ _ _;subst bR;refine aF.au fun F2 bR=>?_)|(show F2 _ _ _;subst bR)|(show F _ _ _;subst hF;refine aF.au fun F hF=>?_)|(show F _ _ _;subst hF)|refine ae U rfl ?_)
  all_goals (try conv=>whnf)
  exact ⟨⟨i+1,.slice (some Am) (d.length+1) nm⟩,[0,1,2],⟨⟨hi,.inr ⟨Am,nm,by rw[e,List.length_append];rfl⟩⟩,Nat.sub_lt_sub_left hi (Nat.lt_succ_self _)⟩,rfl,⟨rr,rr,⟨rfl,aw rfl (aj (by first|omega|(simp only[];omega)) (by first|omega|(simp only[];omega)))⟩,tU⟩,⟨ko,⟨_,rfl,rfl⟩,⟨_,rfl,by simp only[e];exact kp⟩,tU⟩⟩
 obtain rfl:i=xt.length:=by omega
 have e0:dn++xt.take xt.length=dn++xt:=by rw[List.take_length]
 simp only[e0] at cF lL ⊢;obtain ⟨c4,YW⟩:∃c,c=dn++xt:=⟨_,rfl⟩;simp only[<-YW] at cF lL ⊢;clear hv e0;repeat' ((conv=>whnf);first|with_reducible apply aa<;>intro _|refine aJ.drawn U rfl rfl ?_|with_reducible refine And.intro (aG.mk ⟨_,rfl,rfl⟩) ?_|refine And.intro (aG.mk ⟨_,rfl,tU⟩) ?_|(exfalso;exact cI hi (by assumption))|(refine (cX (k:=4) (x:=(es.length:Int)) (by omega) (by decide) (by decide) p4 (by omega)).use [2] rfl rfl ⟨ko,tU⟩ ?_;rintro _ _ ⟨An,nn,dn,o7,rfl,G,rfl⟩;have fD:=congrArg List.length o7;rw[dS] at fD;refine ⟨[],?_⟩)|(show F _ _ _;subst hF;refine aF.au fun F hF=>?_)|(show F _ _ _;subst hF)|refine ae U rfl ?_)
 clear hi;have g1:dn.length<=27000000:=by omega
 have g1':0<dn.length:=by omega
 refine aW U rfl (fun s:FG=>[(1,.ptr 1 0),(3,.lit s.v),(14,iA (s.i:Nat))]) (fun s=>[.res R,.cells (bM.a ⟨ms,tk.length,rs,ss,⟨⟨xt⟩⟩,es,past,om,ot,pd,os,oe,cm,ct,cr,cs,ce⟩) 28,.res (aB cj 1 cK s.v (dn++(es.take s.i).flatMap (fun x=>wB (dF x))))]) (fun s=>s.i<=es.length/\ep s.v (dn++(es.take s.i).flatMap (fun x=>wB (dF x)))) (fun s=>es.length - s.i) ⟨0,.slice (some An) dn.length nn⟩ ⟨Nat.zero_le _,.inr ⟨An,nn,by simp⟩⟩ [0,1,2] ⟨rfl,⟨rr,rr,rr,tU⟩,⟨ko,⟨_,rfl,rfl⟩,⟨_,rfl,by simp only[List.take_zero,List.flatMap_nil,List.append_nil];exact kp⟩,tU⟩⟩ ?_;rintro ⟨i,v⟩ ⟨j5,hv⟩;simp only[] at j5 hv;have hlen:((es.take i).flatMap (fun x=>wB (dF x))).length<=60000 * 8:=by rw[ee (fun r=>vS r),List.length_take];exact Nat.mul_le_mul_right _ (by omega)
 have cF:(dn++(es.take i).flatMap (fun x=>wB (dF x))).length<=27000000+1000000:=by rw[List.length_append];omega
 have lL:0<(dn++(es.take i).flatMap (fun x=>wB (dF x))).length:=by rw[List.length_append];omega
 obtain ⟨A2,n2,rfl⟩:=lG hv (List.length_pos_iff.1 lL);by_cases hi:i<es.length
 ·have qi:=Jf _ (List.getElem_mem hi);obtain ⟨a1,rfl,nX⟩:=ge.at hi;have k1:=fun w S hw=>nX w S hw i hi;have e:dn++(es.take (i+1)).flatMap (fun x=>wB (dF x))=dn++(es.take i).flatMap (fun x=>wB (dF x))++(fun x=>wB (dF x)) es[i]:=by
   rw[bf hi,List.flatMap_append,List.append_assoc];simp
  obtain ⟨d,hd⟩:∃d,d=dn++(es.take i).flatMap (fun x=>wB (dF x)):=⟨_,rfl⟩;obtain ⟨m,hm⟩:∃m,m=es[i]:=⟨_,rfl⟩;simp only[<-hd,<-hm] at cF lL e k1 qi ⊢;clear gr gs ge nX uX ER Jf hd hm pA hv hlen;have m0:bm 2 m.user:=qi (2,[m.user]) (by simp[dF]) _ (by simp);have m1:bm 1 m.op:=qi (1,[m.op,m.status]) (by simp[dF]) _ (by simp);have m2:bm 1 m.status:=qi (1,[m.op,m.status]) (by simp[dF]) _ (by simp);have m3:bm 4 m.tick:=qi (4,[m.tick]) (by simp[dF]) _ (by simp);refine aF.au fun F2 bR=>?_;repeat' ((conv=>whnf);first|with_reducible apply aa<;>intro _|refine aJ.drawn U rfl rfl ?_|with_reducible refine And.intro (aG.mk ⟨_,rfl,rfl⟩) ?_|refine And.intro (aG.mk ⟨_,rfl,tU⟩) ?_|(exfalso;exact ck hi (by assumption))|refine ai.bJ U rfl rfl rfl rfl rfl hi ?_|refine ai.aR (i:=0) (v:=.agg (Gq m)) rfl k1 rfl rfl ?_|refine jJ.mk ?_ ?_|(refine (cX (k:=2) (x:=m.user) (by omega) (by decide) (by decide) m0 (by omega)).use [2] rfl rfl ⟨ko,tU⟩ ?_;rintro _ _ ⟨Am,nm,dm,hJ,rfl,G,rfl⟩;have gi:=congrArg List.length hJ;rw[dS] at gi;refine ⟨[],?_⟩)|(refine (cX (k:=1) (x:=m.op) (by omega) (by decide) (by decide) m1 (by omega)).use [2] rfl rfl ⟨ko,tU⟩ ?_;rintro _ _ ⟨Am,nm,dm,hJ,rfl,G,rfl⟩;have gi:=congrArg List.length hJ;rw[dS] at gi;refine ⟨[],?_⟩)|(refine (cX (k:=1) (x:=m.status) (by omega) (by decide) (by decide) m2 (by omega)).use [2] rfl rfl ⟨ko,tU⟩ ?_;rintro _ _ ⟨Am,nm,dm,hJ,rfl,G,rfl⟩;have gi:=congrArg List.length hJ;rw[dS] at gi;refine ⟨[],?_⟩)|(refine (cX (k:=4) (x:=m.tick) (by omega) (by decide) (by decide) m3 (by omega)).use [2] rfl rfl ⟨ko,tU⟩ ?_;rintro _ _ ⟨Am,nm,dm,hJ,rfl,G,rfl⟩;have gi:=congrArg List.length hJ;rw[dS] at gi;refine ⟨[],?_⟩)|(show F2 _ _ _;subst bR;refine aF.au fun F2 bR=>?_)|(show F2 _ _ _;subst bR)|(show F _ _ _;subst hF;refine aF.au fun F hF=>?_)|(show F _ _ _;subst hF)|refine ae U rfl ?_)
  all_goals (try conv=>whnf)
  have hz:dm=d++(fun x=>wB (dF x)) m:=by
   clear k1 e;subst_vars;simp[wB,dF,fX,List.append_assoc]
  exact ⟨⟨i+1,.slice (some Am) dm.length nm⟩,[0,1,2],⟨⟨hi,.inr ⟨Am,nm,by rw[e,<-hz]⟩⟩,Nat.sub_lt_sub_left hi (Nat.lt_succ_self _)⟩,rfl,⟨rr,rr,⟨rfl,aw rfl (aj (by first|omega|(simp only[];omega)) (by first|omega|(simp only[];omega)))⟩,tU⟩,⟨ko,⟨_,rfl,rfl⟩,⟨_,rfl,by simp only[e,<-hz];exact kp⟩,tU⟩⟩
 obtain rfl:i=es.length:=by omega
 have e0:dn++(es.take es.length).flatMap (fun x=>wB (dF x))=dn++es.flatMap (fun x=>wB (dF x)):=by rw[List.take_length]
 simp only[e0] at cF lL ⊢;obtain ⟨c5,YX⟩:∃c,c=dn++es.flatMap (fun x=>wB (dF x)):=⟨_,rfl⟩;simp only[<-YX] at cF lL ⊢;clear hv hlen e0;have hz:fin=c5++bZ 4 (kT c5 % 4294967296):=by
  have e:c5=c1++cD 2 rs.length++(rs.flatMap fun x=>wB (dL x))++cD 2 ss.length++(ss.flatMap fun x=>wB (dM x))++[(xt.length:Int)].flatMap (bs 2)++xt++cD 4 es.length++es.flatMap fun x=>wB (dF x):=by
   clear pA;subst_vars;simp[cD,List.append_assoc]
  rw[pA,e]
 clear pA gr gs ge uX ER Jf;repeat' ((conv=>whnf);first|with_reducible apply aa<;>intro _|refine aJ.drawn U rfl rfl ?_|with_reducible refine And.intro (aG.mk ⟨_,rfl,rfl⟩) ?_|refine And.intro (aG.mk ⟨_,rfl,tU⟩) ?_|(exfalso;exact cI hi (by assumption))|refine (RW (l:=c5) (by omega)).g [2] rfl rfl ⟨ko,tU⟩ fun G=>?_|(refine (oV (k:=4) (n:=kT c5 % 4294967296) (List.length_pos_iff.1 (by omega)) (by decide) (by decide) (Nat.lt_trans (Nat.mod_lt _ (by decide)) (by decide)) (Nat.lt_of_lt_of_eq (Nat.mod_lt _ (by decide)) (by decide)) (by omega)).use [2] rfl rfl ⟨ko,tU⟩ ?_;rintro _ _ ⟨Am,nm,dm,hJ,rfl,G,rfl⟩;have gi:=congrArg List.length hJ;rw[bE] at gi;refine ⟨[],?_⟩)|(show F _ _ _;subst hF;refine aF.au fun F hF=>?_)|(show F _ _ _;subst hF)|refine ae U rfl ?_)
 all_goals (try conv=>whnf)
 exact ⟨Am,nm,dm,by rw[hz,hJ],rfl,_,_,rfl⟩
end Go.Proofs.YtmbdghclhpboaaaGreat
namespace Go.Proofs.YtmbdghclhpboaaaGreat
open Ev
theorem J3{R:aH}{q:bM}{tk:List iL}(hk:q.Tk R tk)(ho:CL q tk)(hi:fE q tk=true)(hf:Ap q=true):(oX q tk).length<=65536:=by
 obtain ⟨l0,lt,l1,l2,l3⟩:=KA hf;have hr:(gE q.s).2.err=0:=by
  unfold fE at hi;simp only[Bool.and_eq_true] at hi;exact of_decide_eq_true hi.2.1.1
 have h4:=wN hr;have wq:=ho.tl;have h5:=pI ho.ms q.ms.length (Nat.le_refl _) (by omega);rw[List.take_length,show tk.take q.ms.length=tk by rw[<-wq];exact List.take_length] at h5;have h6:(E9 q.rs).length=q.rs.length * 7:=ee (fun r=>wO r) _;have h7:(Fj q.ss).length=q.ss.length * 11:=ee (fun r=>wV r) _;have h8:(Eu q.es).length=q.es.length * 8:=ee (fun r=>vS r) _;have h9:(AK q).length=10:=by
  unfold AK;rw[List.length_append];simp[oK]
 have vX:([(q.s.length:Int)].flatMap (bs 2)).length=2:=by simp[oK]
 unfold oX preB;simp only[List.length_append,bF,jz,h6,h7,h8,h9,vX];omega
theorem PZ{R:aH}{q:bM}{tk:List iL}(h:q.Rd R)(hk:q.Tk R tk)(hA:∀m∈q.ms,0<=m.cf/\m.cf<18446744073709551616)(hc:∀x∈tk,x.l.length<=x.c/\x.l.length<=9223372036854775807)(hx:q.s.length<=4611686018427387904):CP [] 3 [.agg q.a] [.res R] (fun v H'=>v=bA true/\∃G,H'=.res R::G):=by
 obtain ⟨fb,WZ⟩:∃fb,fb=Ap q:=⟨_,rfl⟩;refine ae U rfl ?_;refine eP.of rfl rfl ?_;refine aF.au fun F hF=>?_;repeat' ((conv=>whnf);first|(show F _ _ _;subst hF;refine aF.au fun F hF=>?_)|(show F _ _ _;subst hF))
 conv=>whnf
 refine XU ?_;rw[<-WZ];conv=>whnf
 cases UB:fb with
 | false=>
   repeat' ((conv=>whnf);first|(show F _ _ _;subst hF;refine aF.au fun F hF=>?_)|(show F _ _ _;subst hF)|refine xT ?_)
   all_goals (try conv=>whnf)
   exact ⟨rfl,_,rfl⟩
 | true=>
   have GP:Ap q=true:=by rw[<-WZ];exact UB
   obtain ⟨l0,lt,l1,l2,l3⟩:=KA GP;have lq:fE q tk=true->CL q tk:=fun hi=>PV hk (by omega) (by omega) (by omega) (by omega) hA hi;have kR:=Ph h hk (by omega) (by omega) (by omega) (by omega) hc hx;rw[HV] at kR;repeat' ((conv=>whnf);first|(show F _ _ _;subst hF;refine aF.au fun F hF=>?_)|(show F _ _ _;subst hF))
   conv=>whnf
   refine (PL h hk (by omega) (by omega) (by omega) (by omega) lq).use [0] rfl rfl ⟨ko,tU⟩ ?_;rintro _ _ (⟨i1,rfl,G2,rfl⟩|⟨i1,i2,rfl,G2,rfl⟩|⟨i1,i2,A,n,rfl,Ga,Gb,G2,rfl⟩)
   ·refine ⟨[],?_⟩;rw[i1] at kR;repeat' ((conv=>whnf);first|refine kR.g [0] rfl rfl ⟨ko,tU⟩ fun G=>?_|(show F _ _ _;subst hF;refine aF.au fun F hF=>?_)|(show F _ _ _;subst hF)|refine xT ?_)
    all_goals (try conv=>whnf)
    exact ⟨rfl,_,rfl⟩
   ·exact absurd (J3 hk (lq i1) i1 GP) (by omega)
   ·have ho:=lq i1;rw[i1] at kR;have kB:=RF h hk ho;obtain ⟨d,hd⟩:∃d,d=oX q tk:=⟨_,rfl⟩;rw[<-hd] at i2 kB ⊢;refine ⟨[3],?_⟩;repeat' ((conv=>whnf);first|refine kR.g [0] rfl rfl ⟨ko,tU⟩ fun G=>?_|(refine kB.use [0] rfl rfl ⟨ko,tU⟩ ?_;rintro _ _ ⟨A2,n2,d2,rfl,rfl,G1,G,rfl⟩;refine ⟨[2],?_⟩)|refine (CD (l:=d2) (by omega)).g [2,3] rfl rfl ⟨ko,ko,tU⟩ fun G=>?_|(show F _ _ _;subst hF;refine aF.au fun F hF=>?_)|(show F _ _ _;subst hF)|refine xT ?_)
    all_goals (try conv=>whnf)
    exact ⟨rfl,_,rfl⟩
end Go.Proofs.YtmbdghclhpboaaaGreat
namespace Go.Proofs.YtmbdghclhpboaaaGreat
open Go.RowKit Go.ChangeShapes Go.WideShapes Go.Deep
theorem Dj{α:Type}{k:Nat}{enc:α->List Value}(hk:∀a,(enc a).length=k){w:World}{b:Nat}:∀(l:List α) (off:Nat),(∀i (hi:i<l.length),gZ w b (off+i * k) (enc l[i]))->gZ w b off (l.flatMap enc)
 | [],off,_=>fun j u hu=>by simp at hu
 | a::l,off,h=>fun j u hu=>by
   rw[List.flatMap_cons] at hu;by_cases hj:j<(enc a).length
   ·rw[List.getElem?_append_left hj] at hu;have:=h 0 (by simp) j u hu;simpa using this
   ·rw[List.getElem?_append_right (by omega)] at hu;have h2:gZ w b (off+k) (l.flatMap enc):=Dj hk l (off+k) fun i hi=>by
     have:=h (i+1) (by simpa using hi);rw[show off+k+i * k=off+(i+1) * k by rw[Nat.add_mul];omega];simpa using this
    have:=h2 _ u hu;rw[hk] at this;rwa [show off+k+(j - k)=off+j by have:=hk a;omega] at this
theorem CN{a:Addr}{w:World}{j:Nat}{u:Value}(h:w.cell? a=some u):a.add j=⟨a.block,a.off+j,none⟩/\a.spot=none:=by
 obtain ⟨b,off,sp⟩:=a;have hs:sp=none:=by
  cases sp with
  | none=>rfl
  | some s=>
    unfold World.cell? at h;split at h<;>simp at h
 subst hs;refine ⟨?_,rfl⟩;unfold Addr.add;split<;>simp_all
section
variable{H:Type}{enc:TypeId×Value->H}{P:Program}{w:World}{base:Nat}{spare:Nat->Bool}{held:Bool}
end
def M0(w:World)(e:Ending)(w':World):Prop:=e=.returned (.bool true)/\Below w.heap.size w w'
section
variable{H:Type}{enc:TypeId×Value->H}{P:Program}
theorem xa{w:World}{base:Nat}{spare:Nat->Bool}{held:Bool}:∀(ts:List TypeId) {vs:List Value} {ds:List (DataW H)} {ps:List MemPlace},DataW.TrodAll enc P w base spare held ts vs ds ps->ds.length=ts.length
 | [],_,_,_,h=>by obtain ⟨_,rfl,_⟩:=trodAll_nil h;rfl
 | t::ts,_,_,_,h=>by
   obtain ⟨v,vs,d,ds,p,q,rfl,rfl,rfl,h1,h2⟩:=trodAll_cons h;simp[xa ts h2]
theorem sV(hl:laidOutB P=true){W W':World}{sp:Nat->Bool}:∀(ts:List TypeId) {vs:List Value} {ds:List (DataW H)} {ps:List MemPlace},(∀t∈ts,P.readableRec t=true/\t<P.types.size) ->
  DataW.TrodAll enc P W 0 (fun _=>true) true ts vs ds ps->(∀p∈ps,W.sameAt W' p)->(∀p∈ps,sp p.block=true)->DataW.TrodAll enc P W' 0 sp true ts vs ds ps
 | [],_,_,_,_,h,_,_=>by
   obtain ⟨rfl,rfl,rfl⟩:=trodAll_nil h;exact trodAll_mk0
 | t::ts,_,_,_,mR,h,dT,hs=>by
   obtain ⟨v,vs,d,ds,p,q,rfl,rfl,rfl,h1,h2⟩:=trodAll_cons h;obtain ⟨hr,wm⟩:=mR t (List.mem_cons_self ..);exact ⟨p,q,WideElems.Trod_stays hl hr wm h1 (fun x hx=>dT x (List.mem_append.2 (.inl hx))) (fun x hx=>hs x (List.mem_append.2 (.inl hx))),
    sV hl ts (fun t ht=>mR t (List.mem_cons_of_mem _ ht)) h2 (fun x hx=>dT x (List.mem_append.2 (.inr hx))) (fun x hx=>hs x (List.mem_append.2 (.inr hx))),rfl⟩
theorem Di(hl:laidOutB P=true){f:Func}{s:ChangeSpec}{apart fresh handsOn:Bool}{W W':World}{args:Array Value}{ds gs:List (DataW H)}{before:List MemPlace}{tb:TypeId}
  (hb:P.underlying tb=some .bool) (hr:f.resultTypes=#[tb]) (mR:∀t∈f.params.toList,P.readableRec t=true/\t<P.types.size) (hv:s.vars=[])
  (AU:∀ds:List (DataW H),ds.length=f.params.toList.length->(s.fn H ds).results=[.lit (.bool true)]/\(s.fn H ds).args=ds/\(s.fn H ds).vars=[])
  (hW:DataW.Whole enc P f.params.toList s.vars apart W args.toList ds gs before) (pz:Below W.heap.size W W'):s.post enc P f apart fresh handsOn false W args (.bool true) W':=by
 have ah:∀p∈before,p.block<W.heap.size:=fun p hp=>hW.lt p hp;have NM:=hW;obtain ⟨p,q,hA,hV,rfl,LK,mP⟩:=hW;rw[hv] at hV;obtain ⟨rfl,rfl⟩:=trodVars_none hV;simp only[List.append_nil] at ah;obtain ⟨e1,e2,e3⟩:=AU ds (xa _ hA);refine ⟨ds,[],p++[],[],p,[],NM,?_,?_,?_,?_,fun h=>by cases h⟩
 ·rw[List.append_nil,e1,hr];exact trodAll_mk1 ⟨1,by simp[DataW.trod,Value.cells,hb]⟩
 ·rw[List.append_nil,e2];exact sV hl _ mR hA (fun x hx=>pz.same (ah x hx)) (fun x hx=>by simpa using ah x hx)
 ·rw[List.append_nil,e3,hv];trivial
 ·exact World.keptBut_mono (fun x hx=>⟨hx,.inr (.inl (by simpa using hx))⟩) (pz.frame (·∈p++[]))
theorem Vi{C:Checked}(own:ownKnob C.prog.godebug=none)(hl:laidOutB C.prog=true){os:Os}(started:os.Started){f:FuncId}{fn:Func}{s:ChangeSpec}{apart fresh handsOn:Bool}{tb:TypeId}
  (E2:C.prog.inits.idxOf? f=none) (AL:C.prog.funcs[f]?=some fn)
  (hb:C.prog.underlying tb=some .bool) (hr:fn.resultTypes=#[tb]) (mR:∀t∈fn.params.toList,C.prog.readableRec t=true/\t<C.prog.types.size) (hv:s.vars=[])
  (AU:∀ds:List (DataW H),ds.length=fn.params.toList.length->(s.fn H ds).results=[.lit (.bool true)]/\(s.fn H ds).args=ds/\(s.fn H ds).vars=[])
  (witness:∃(w:World) (tape:Tape) (i:Input),w.os=os/\(w.forCall tape i).Shaped C.prog/\i.vars=[]/\Input.okWide C.prog (w.forCall tape i) .any w.heap.size f i /\
   s.pre6 enc C.prog fn [] apart (w.forCall tape i).memory i.args/\({}:Assume).holds C.prog (lone (Frame.enter C.prog f i.args .normal) [] (w.forCall tape i)))
  (xk:∀(W:World) (base:Nat) (args:Array Value) (ds:List (DataW H)) (ps:List MemPlace),
   (∀(j:Nat) t v,fn.params[j]?=some t->args[j]?=some v->Value.okWide C.prog W .any base t v) ->
   DataW.TrodAll enc C.prog W 0 (fun _=>true) true fn.params.toList args.toList ds ps->Calls C.prog f args W (M0 W)) :
  ReturnsInHanded {} C os f .any (s.pre6 enc C.prog fn [] apart) (s.post enc C.prog fn apart fresh handsOn false):=by
 refine returnsInHanded_of_change own started E2 AL witness ?_;intro W base args ds gs before sn hW _ _;have NM:=hW;obtain ⟨p,q,hA,hV,rfl,LK,mP⟩:=hW;exact (xk W base args ds p sn hA).mono fun e W' ⟨he,pz⟩=>⟨_,he,Di hl hb hr mR hv AU NM pz⟩
end
end Go.Proofs.YtmbdghclhpboaaaGreat
