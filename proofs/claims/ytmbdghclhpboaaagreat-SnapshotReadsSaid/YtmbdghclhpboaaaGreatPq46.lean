/- Part of the proof: Rf28b LawWr LawRd Args. Conditions: as each states. -/
import Derived.Test.YtmbdghclhpboaaaGreatPq45
import Derived.Test.YtmbdghclhpboaaaGreatPq44
import Derived.ProofKit
import Derived.Deep.Fields
set_option linter.all false
set_option maxRecDepth 100000
set_option maxHeartbeats 8000000
namespace Go.Proofs.YtmbdghclhpboaaaGreat
open Ev Go.RowKit
theorem dC{A:Addr}{c:Nat}{l:List UInt8}(k:Nat)(x:Int)(hx:bw k x)(h0:0<l.length:=by omega)(hl:l.length<=900000000:=by omega)(h1:1<=k:=by decide)(h2:k<=8:=by decide):CP [] 36 [.lit (.slice (some A) l.length c),uA (IntKind.u64.wrap x),iA k] [.res (aA cB 1 da (.slice (some A) l.length c) l)] (Nb (l++bs k x)):=by
 rw[hx.u64];exact pF (List.length_pos_iff.1 h0) h1 h2 (by have:=hx.2.2;have:=hx.1;omega) hx.lt hl
theorem RJ{A:Addr}{c:Nat}{l:List UInt8}(x:Int)(hx:0<=x/\x<18446744073709551616)(h0:0<l.length:=by omega)(hl:l.length<=900000000:=by omega):CP [] 36 [.lit (.slice (some A) l.length c),uA x,iA (8:Nat)] [.res (aA cB 1 da (.slice (some A) l.length c) l)] (Nb (l++cG 8 x.toNat)):=by
 have h:=pF (A:=A) (c:=c) (k:=8) (n:=x.toNat) (List.length_pos_iff.1 h0) (by decide) (by decide) (by omega) (zL (by omega)) hl;rw[Int.toNat_of_nonneg hx.1] at h;exact h
theorem Jh{A:Addr}{c:Nat}{x0 y0 x1 y1:Int}{l:List UInt8}(h0:0<l.length)(h:pb (gG x0 y0 x1 y1))(hl:l.length<=850000000):CP [] 37 [.lit (.slice (some A) l.length c),.agg [iA x0,iA y0,iA x1,iA y1]] [.res (aA cB 1 da (.slice (some A) l.length c) l)] (Nb (l++[x0,y0,x1,y1].flatMap (bs 2))):=
 Uv (List.length_pos_iff.1 h0) (h (2,_) (by simp[gG])) hl
theorem eF{l:List UInt8}{k:Nat}{x:Int}:(l++bs k x).length=l.length+k:=by rw[List.length_append,bR]
theorem Mk{l:List UInt8}{x0 y0 x1 y1:Int}:(l++[x0,y0,x1,y1].flatMap (bs 2)).length=l.length+8:=by rw[cN];rfl
theorem kL{S:List Nat}{f:Nat}{args args0:List AV}{H:List ai}{K:AV->List ai->Prop}{A:Addr}{c z:Nat}{l L:List UInt8}(o:Nat)(ct:CP [] f args0 [.res (aA cB 1 da (.slice (some A) l.length c) l)] (Nb L))(hz:L.length=z)(ha:args=AV.eN (eB [o]) args0)(hc:(eG [o]&&Nat.ble 1 aY&&[o].all fun i=>!nZ S i)=true)(ho:nT (eB [o]) H [o] [.res (aA cB 1 da (.slice (some A) l.length c) l)])
  (kk:∀A' n d G,d=L->d.length=z->Dg [o] [] H (.res (aA cB 1 da (.slice (some A') d.length n) d)::G) (.lit (.slice (some A') d.length n)) K):CP S f args H K:=ct.use [o] ha hc ho (by
 rintro _ _ ⟨A',n,d,hd,rfl,G,rfl⟩;exact ⟨[],kk A' n d G hd (by rw[hd,hz])⟩)
theorem Uk{R:aC}{q:bG}{tk:List dW}(h:q.Rd R)(hk:q.Tk R tk)(ho:He q tk):CP [] 14 [.agg q.a] [.res R] (fun v H'=>∃A n d,d=lG q tk/\v=.lit (.slice (some A) d.length n)/\∃G1 G,H'=.res R::G1::.res (aA cB 1 da (.slice (some A) d.length n) d)::G):=by
 obtain ⟨fin,qk⟩:∃fin,fin=lG q tk:=⟨_,rfl⟩;rw[<-qk];have gm:=h.ms;have gr:=h.rs;have gs:=h.ss;have ge:=h.es;have gt:=hk.rd;have gn:=hk.nt;have gk:=hk.el;rcases q with ⟨ms,nt,rs,ss,⟨⟨xt⟩⟩,es,past,om,ot,oZ,os,oe,cm,ct,cr,cs,ce⟩;simp only[] at gm gr gs ge gt gn gk;subst gn;have tn:ms.length<=60000:=ho.ml;have pV:tk.length=ms.length:=ho.tl;have II:rs.length<=60000:=ho.rl;have F4:ss.length<=60000:=ho.sl;have F9:xt.length<=60000:=ho.xl;have FO:es.length<=60000:=ho.el;have Mf:∀i (h:i<ms.length) (h2:i<tk.length),AP ms[i] tk[i].l:=ho.ms;have vC:∀x∈rs,pb (eu x):=ho.rs;have F5:∀x∈ss,pb (ez x):=ho.ss;have KC:∀x∈es,pb (eh x):=ho.es;have q1:bw 2 (ms.length:Int):=zE tn;have Tw:bw 8 past:=ho.past;have Qg:=Tw.u64;unfold lG preB FN Ll Lw Kq at qk;simp only[bG.s] at qk;clear h hk ho;refine ag aa rfl ?_;refine eX.of rfl rfl ?_;refine aI.az fun F hF=>?_;repeat' ((conv=>whnf);first|with_reducible apply af<;>intro _|refine aM.drawn aa rfl rfl ?_|with_reducible refine And.intro (aN.mk ⟨_,rfl,rfl⟩) ?_|refine And.intro (aN.mk ⟨_,rfl,tU⟩) ?_|(refine aj.pre (eg.more (R:=aA cB 1 da aD []) rfl (bj.gO Jb _)) ?_;refine (RI (k:=8) (n:=past.toNat) (by decide) (by decide) (by have:=Tw.2.2;have:=Tw.1;omega) Tw.lt).use [2,3] (by rw[Qg];rfl) rfl ⟨⟨_,rfl,rfl⟩,ko,tU⟩ ?_;rintro _ _ ⟨A0,n0,d0,mj,rfl,G,rfl⟩;have tj:=congrArg List.length mj;rw[bR] at tj;refine ⟨[],?_⟩)|refine kL 3 (dC 2 (ms.length:Int) q1) eF rfl rfl ⟨ko,tU⟩ fun A1 n1 d1 G sh tm=>?_|(show F _ _ _;subst hF;refine aI.az fun F hF=>?_)|(show F _ _ _;subst hF)|refine ag aa rfl ?_)
 have sh:d1=[past].flatMap (bs 8)++[(ms.length:Int)].flatMap (bs 2):=by
  rw[sh,mj];simp
 have tm:d1.length=10:=by omega
 rw[<-sh] at qk;clear Qg mj tj sh;refine aV aa rfl (fun s:Hb=>[(1,.ptr 1 0),(3,.lit s.v),(4,iA (s.i:Nat))]) (fun s=>[.res R,.cells (bG.a ⟨ms,tk.length,rs,ss,⟨⟨xt⟩⟩,es,past,om,ot,oZ,os,oe,cm,ct,cr,cs,ce⟩) 28,.res (aA cB 1 da s.v (d1++dI (ms.take s.i) (tk.take s.i)))]) (fun s=>s.i<=ms.length/\cS s.v (d1++dI (ms.take s.i) (tk.take s.i))) (fun s=>ms.length - s.i) ⟨0,.slice (some A1) d1.length n1⟩ ⟨Nat.zero_le _,.inr ⟨A1,n1,by simp[dI]⟩⟩ [0,1,3] ⟨rfl,⟨rr,rr,rr,tU⟩,⟨ko,⟨_,rfl,rfl⟩,⟨_,rfl,by simp only[List.take_zero,dI,List.zip_nil_left,List.flatMap_nil,List.append_nil];exact kp⟩,tU⟩⟩ ?_;rintro ⟨i,v⟩ ⟨g9,hv⟩;simp only[] at g9 hv;have hlen:(dI (ms.take i) (tk.take i)).length<=i * 300:=ux Mf i g9 (by omega);have cY:(d1++dI (ms.take i) (tk.take i)).length<=20000000:=by rw[List.length_append];omega
 have mj:0<(d1++dI (ms.take i) (tk.take i)).length:=by rw[List.length_append];omega
 obtain ⟨A2,n2,rfl⟩:=mc hv (List.length_pos_iff.1 mj);by_cases hi:i<ms.length
 ·have lp:i<tk.length:=by omega
  have yv:AP ms[i] tk[i].l:=Mf i hi lp;have ql:=gk _ (List.getElem_mem lp);obtain ⟨a1,rfl,gT⟩:=gm.at hi;obtain ⟨a2,rfl,cQ⟩:=gt.at lp;have k1:=fun w S hw=>gT w S hw i hi;have k2:=fun w S hw=>cQ w S hw i lp;have e:d1++dI (ms.take (i+1)) (tk.take (i+1))=d1++dI (ms.take i) (tk.take i)++xm ms[i] tk[i].l:=by rw[vG hi lp,List.append_assoc]
  obtain ⟨d,hd⟩:∃d,d=d1++dI (ms.take i) (tk.take i):=⟨_,rfl⟩;obtain ⟨m,hm⟩:∃m,m=ms[i]:=⟨_,rfl⟩;obtain ⟨x,hx⟩:∃x,x=tk[i]:=⟨_,rfl⟩;simp only[<-hd,<-hm,<-hx] at cY mj e k1 k2 yv ql ⊢;clear gm gr gs ge gt gk gT cQ Mf vC F5 KC hd hm hx qk hv hlen;rcases x with ⟨xo,xc,xl⟩;simp only[] at yv ql e;have m0:bw 2 m.user:=yv.1 (2,[m.user]) (by simp[oW]) _ (by simp);have m1:bw 1 m.role:=yv.1 (1,[m.role,m.jo]) (by simp[oW]) _ (by simp);have m2:bw 1 m.jo:=yv.1 (1,[m.role,m.jo]) (by simp[oW]) _ (by simp);have m3:bw 2 m.fL:=yv.1 (2,[m.fL,m.k]) (by simp[oW]) _ (by simp);have m4:bw 2 m.k:=yv.1 (2,[m.fL,m.k]) (by simp[oW]) _ (by simp);have m5:=yv.2.1;have h8:xl.length<=8:=yv.2.2.1;have qZ:∀k∈xl,AU k:=yv.2.2.2;have m6:bw 1 (xl.length:Int):=⟨by omega,by show (xl.length:Int)<256;omega,by omega⟩;refine aI.az fun F2 cf=>?_;repeat' ((conv=>whnf);first|with_reducible apply af<;>intro _|refine aM.drawn aa rfl rfl ?_|with_reducible refine And.intro (aN.mk ⟨_,rfl,rfl⟩) ?_|refine And.intro (aN.mk ⟨_,rfl,tU⟩) ?_|(exfalso;exact bT hi (by assumption))|refine al.bC aa rfl rfl rfl rfl rfl hi ?_|refine al.bC aa rfl rfl rfl rfl rfl lp ?_|refine al.aR (i:=0) (v:=.agg (mA m)) rfl k1 rfl rfl ?_|refine al.aR (i:=0) (v:=.lit (lN ⟨xo,xc,xl⟩)) rfl k2 rfl rfl ?_|refine ky.mk ?_ ?_|refine kL 2 (dC 2 m.user m0) eF rfl rfl ⟨ko,tU⟩ fun An nn dn G Dy jg=>?_|refine kL 2 (dC 1 m.role m1) eF rfl rfl ⟨ko,tU⟩ fun An nn dn G Dy jg=>?_|refine kL 2 (dC 1 m.jo m2) eF rfl rfl ⟨ko,tU⟩ fun An nn dn G Dy jg=>?_|refine kL 2 (dC 2 m.fL m3) eF rfl rfl ⟨ko,tU⟩ fun An nn dn G Dy jg=>?_|refine kL 2 (dC 2 m.k m4) eF rfl rfl ⟨ko,tU⟩ fun An nn dn G Dy jg=>?_|refine kL 2 (RJ m.cu m5) bM rfl rfl ⟨ko,tU⟩ fun An nn dn G Dy jg=>?_|refine kL 2 (dC 1 (xl.length:Int) m6) eF rfl rfl ⟨ko,tU⟩ fun An nn dn G Dy jg=>?_|(show F2 _ _ _;subst cf;refine aI.az fun F2 cf=>?_)|(show F2 _ _ _;subst cf)|(show F _ _ _;subst hF;refine aI.az fun F hF=>?_)|(show F _ _ _;subst hF)|refine ag aa rfl ?_)
  all_goals (try conv=>whnf)
  have e3:d1++dI (ms.take (i+1)) (tk.take (i+1))=dn++xl.flatMap gW:=by
   rw[e];clear k1 k2 e;subst_vars;simp[xm,wB,oW,cV,List.append_assoc]
  have acv:dn.length<=30000000:=by omega
  have acu:0<dn.length:=by omega
  clear e;refine aV aa rfl (fun s:Hb=>[(1,.ptr 1 0),(3,.lit s.v),(4,iA (i:Nat)),(6,iA (s.i:Nat))]) (fun s=>[.res R,.cells (bG.a ⟨ms,tk.length,rs,ss,⟨⟨xt⟩⟩,es,past,some a1,some a2,oZ,os,oe,cm,ct,cr,cs,ce⟩) 28,.res (aA cB 1 da s.v (dn++(xl.take s.i).flatMap gW))]) (fun s=>s.i<=xl.length/\cS s.v (dn++(xl.take s.i).flatMap gW)) (fun s=>xl.length - s.i) ⟨0,.slice (some An) dn.length nn⟩ ⟨Nat.zero_le _,.inr ⟨An,nn,by simp⟩⟩ [0,1,2] ⟨rfl,⟨rr,rr,rr,rr,tU⟩,⟨ko,⟨_,rfl,rfl⟩,⟨_,rfl,by simp only[List.take_zero,List.flatMap_nil,List.append_nil];exact kp⟩,tU⟩⟩ ?_;rintro ⟨j,v⟩ ⟨z7,hv⟩;simp only[] at z7 hv;have hlen:((xl.take j).flatMap gW).length<=8 * 31:=by rw[fU C7,List.length_take];exact Nat.mul_le_mul_right _ (by omega)
  have Vq:(dn++(xl.take j).flatMap gW).length<=40000000:=by rw[List.length_append];omega
  have P0:0<(dn++(xl.take j).flatMap gW).length:=by rw[List.length_append];omega
  obtain ⟨A3,n3,rfl⟩:=mc hv (List.length_pos_iff.1 P0);by_cases hj:j<xl.length
  ·have ti:=qZ _ (List.getElem_mem hj);obtain ⟨a3,rfl,VC⟩:=ql.at hj;have k3:=fun w S hw=>VC w S hw j hj;have e4:dn++(xl.take (j+1)).flatMap gW=dn++(xl.take j).flatMap gW++gW xl[j]:=by
    rw[bq hj,List.flatMap_append,List.append_assoc];simp
   obtain ⟨b,hb⟩:∃b,b=dn++(xl.take j).flatMap gW:=⟨_,rfl⟩;obtain ⟨k,hk⟩:∃k,k=xl[j]:=⟨_,rfl⟩;simp only[<-hb,<-hk] at Vq P0 e4 k3 ti ⊢;have t0:=ti.2.1;have t1:=ti.2.2;have t2:bw 1 k.g.ops:=ti.1 (1,[k.g.ops,k.g.bV,p7 k.g.void]) (by simp[kq]) _ (by simp);have t3:bw 1 k.g.bV:=ti.1 (1,[k.g.ops,k.g.bV,p7 k.g.void]) (by simp[kq]) _ (by simp);have t4:pb (gG k.g.x0 k.g.y0 k.g.x1 k.g.y1):=fun p hp=>ti.1 p (by rw[List.mem_singleton.1 hp];simp[kq]);have t5:bw 4 k.g.mD:=ti.1 (4,[k.g.mD]) (by simp[kq]) _ (by simp);clear hb hk VC ql qZ yv e3 hv hlen;refine aI.az fun F3 WW=>?_;repeat' ((conv=>whnf);first|with_reducible apply af<;>intro _|refine aM.drawn aa rfl rfl ?_|with_reducible refine And.intro (aN.mk ⟨_,rfl,rfl⟩) ?_|refine And.intro (aN.mk ⟨_,rfl,tU⟩) ?_|(exfalso;exact bT hj (by assumption))|refine al.bC aa rfl rfl rfl rfl rfl lp ?_|refine al.aR (i:=0) (v:=.lit (lN ⟨some a3,xc,xl⟩)) rfl k2 rfl rfl ?_|refine al.bC aa rfl rfl rfl rfl rfl hj ?_|refine al.aR (i:=0) (v:=.agg (rO k)) rfl k3 rfl rfl ?_|refine ky.mk ?_ ?_|refine kL 2 (pF (k:=8) (n:=k.bH) (List.length_pos_iff.1 (by omega)) (by decide) (by decide) t0 (zL t0) (by omega)) bM rfl rfl ⟨ko,tU⟩ fun Am nm dm G qj jC=>?_|refine kL 2 (pF (k:=8) (n:=k.parent) (List.length_pos_iff.1 (by omega)) (by decide) (by decide) t1 (zL t1) (by omega)) bM rfl rfl ⟨ko,tU⟩ fun Am nm dm G qj jC=>?_|refine kL 2 (dC 1 k.g.ops t2) eF rfl rfl ⟨ko,tU⟩ fun Am nm dm G qj jC=>?_|refine kL 2 (dC 1 k.g.bV t3) eF rfl rfl ⟨ko,tU⟩ fun Am nm dm G qj jC=>?_|refine kL 2 (pF (k:=1) (n:=1) (List.length_pos_iff.1 (by omega)) (by decide) (by decide) (by decide) (by decide) (by omega)) bM rfl rfl ⟨ko,tU⟩ fun Am nm dm G qj jC=>?_|refine kL 2 (pF (k:=1) (n:=0) (List.length_pos_iff.1 (by omega)) (by decide) (by decide) (by decide) (by decide) (by omega)) bM rfl rfl ⟨ko,tU⟩ fun Am nm dm G qj jC=>?_|refine kL 2 (Jh (x0:=k.g.x0) (y0:=k.g.y0) (x1:=k.g.x1) (y1:=k.g.y1) (by omega) t4 (by omega)) Mk rfl rfl ⟨ko,tU⟩ fun Am nm dm G qj jC=>?_|refine kL 2 (dC 4 k.g.mD t5) eF rfl rfl ⟨ko,tU⟩ fun Am nm dm G qj jC=>?_|(show F3 _ _ _;subst WW;refine aI.az fun F3 WW=>?_)|(show F3 _ _ _;subst WW)|(show F2 _ _ _;subst cf;refine aI.az fun F2 cf=>?_)|(show F2 _ _ _;subst cf)|(show F _ _ _;subst hF;refine aI.az fun F hF=>?_)|(show F _ _ _;subst hF)|refine ag aa rfl ?_)
   all_goals (try conv=>whnf)
   all_goals
    have hz:dm=b++gW k:=by
     first
      | (have XK:k.g.void=true:=by assumption
         clear k1 k2 k3 e4
         subst_vars
         simp[gW,wB,kq,p7,XK,List.append_assoc]
         rfl)
      | (have XK:k.g.void=false:=by assumption
         clear k1 k2 k3 e4
         subst_vars
         simp[gW,wB,kq,p7,XK,List.append_assoc]
         rfl)
    exact ⟨⟨j+1,.slice (some Am) dm.length nm⟩,[0,1,2],⟨⟨hj,.inr ⟨Am,nm,by rw[e4,<-hz]⟩⟩,Nat.sub_lt_sub_left hj (Nat.lt_succ_self _)⟩,rfl,⟨rr,rr,rr,⟨rfl,ax rfl (ak (by first|omega|(simp only[];omega)) (by first|omega|(simp only[];omega)))⟩,tU⟩,⟨ko,⟨_,rfl,rfl⟩,⟨_,rfl,by simp only[e4,<-hz];exact kp⟩,tU⟩⟩
  ·obtain rfl:j=xl.length:=by omega
   have hz:d1++dI (ms.take (i+1)) (tk.take (i+1))=dn++(xl.take xl.length).flatMap gW:=by rw[List.take_length,e3]
   obtain ⟨b,hb⟩:∃b,b=dn++(xl.take xl.length).flatMap gW:=⟨_,rfl⟩;simp only[<-hb] at hz ⊢;clear e3 hb hv hlen Vq P0;repeat' ((conv=>whnf);first|with_reducible apply af<;>intro _|refine aM.drawn aa rfl rfl ?_|with_reducible refine And.intro (aN.mk ⟨_,rfl,rfl⟩) ?_|refine And.intro (aN.mk ⟨_,rfl,tU⟩) ?_|(exfalso;exact cF hj (by assumption))|refine al.bC aa rfl rfl rfl rfl rfl lp ?_|refine al.aR (i:=0) (v:=.lit (lN ⟨xo,xc,xl⟩)) rfl k2 rfl rfl ?_|refine ky.mk ?_ ?_|(show F2 _ _ _;subst cf;refine aI.az fun F2 cf=>?_)|(show F2 _ _ _;subst cf)|(show F _ _ _;subst hF;refine aI.az fun F hF=>?_)|(show F _ _ _;subst hF)|refine ag aa rfl ?_)
   all_goals (try conv=>whnf)
   exact ⟨⟨i+1,.slice (some A3) b.length n3⟩,[0,1,2],⟨⟨hi,.inr ⟨A3,n3,by rw[hz]⟩⟩,Nat.sub_lt_sub_left hi (Nat.lt_succ_self _)⟩,rfl,⟨rr,rr,⟨rfl,ax rfl (ak (by first|omega|(simp only[];omega)) (by first|omega|(simp only[];omega)))⟩,tU⟩,⟨ko,⟨_,rfl,rfl⟩,⟨_,rfl,by simp only[hz];exact kp⟩,tU⟩⟩
 obtain rfl:i=ms.length:=by omega
 have lL:tk.take ms.length=tk:=by rw[<-pV];exact List.take_length
 have e0:d1++dI (ms.take ms.length) (tk.take ms.length)=d1++dI ms tk:=by rw[List.take_length,lL]
 simp only[e0] at cY mj ⊢;obtain ⟨c1,Te⟩:∃c1,c1=d1++dI ms tk:=⟨_,rfl⟩;simp only[<-Te] at cY mj qk ⊢;clear hv hlen Te e0 lL gm gt gk Mf;have p1:bw 2 (rs.length:Int):=zE II;have p2:bw 2 (ss.length:Int):=zE F4;have p3:bw 2 (xt.length:Int):=zE F9;have p4:bw 4 (es.length:Int):=VK FO;repeat' ((conv=>whnf);first|with_reducible apply af<;>intro _|refine aM.drawn aa rfl rfl ?_|with_reducible refine And.intro (aN.mk ⟨_,rfl,rfl⟩) ?_|refine And.intro (aN.mk ⟨_,rfl,tU⟩) ?_|(exfalso;exact cF hi (by assumption))|refine kL 2 (dC 2 (rs.length:Int) p1) eF rfl rfl ⟨ko,tU⟩ fun An nn dn G Dy jg=>?_|(show F _ _ _;subst hF;refine aI.az fun F hF=>?_)|(show F _ _ _;subst hF)|refine ag aa rfl ?_)
 clear hi;have g1:dn.length<=21000000:=by omega
 have g1':0<dn.length:=by omega
 refine aV aa rfl (fun s:Hb=>[(1,.ptr 1 0),(3,.lit s.v),(9,iA (s.i:Nat))]) (fun s=>[.res R,.cells (bG.a ⟨ms,tk.length,rs,ss,⟨⟨xt⟩⟩,es,past,om,ot,oZ,os,oe,cm,ct,cr,cs,ce⟩) 28,.res (aA cB 1 da s.v (dn++(rs.take s.i).flatMap (fun x=>wB (eu x))))]) (fun s=>s.i<=rs.length/\cS s.v (dn++(rs.take s.i).flatMap (fun x=>wB (eu x)))) (fun s=>rs.length - s.i) ⟨0,.slice (some An) dn.length nn⟩ ⟨Nat.zero_le _,.inr ⟨An,nn,by simp⟩⟩ [0,1,2] ⟨rfl,⟨rr,rr,rr,tU⟩,⟨ko,⟨_,rfl,rfl⟩,⟨_,rfl,by simp only[List.take_zero,List.flatMap_nil,List.append_nil];exact kp⟩,tU⟩⟩ ?_;rintro ⟨i,v⟩ ⟨g9,hv⟩;simp only[] at g9 hv;have hlen:((rs.take i).flatMap (fun x=>wB (eu x))).length<=60000 * 7:=by rw[fU (fun r=>CF r),List.length_take];exact Nat.mul_le_mul_right _ (by omega)
 have cY:(dn++(rs.take i).flatMap (fun x=>wB (eu x))).length<=21000000+1000000:=by rw[List.length_append];omega
 have mj:0<(dn++(rs.take i).flatMap (fun x=>wB (eu x))).length:=by rw[List.length_append];omega
 obtain ⟨A2,n2,rfl⟩:=mc hv (List.length_pos_iff.1 mj);by_cases hi:i<rs.length
 ·have qZ:=vC _ (List.getElem_mem hi);obtain ⟨a1,rfl,gT⟩:=gr.at hi;have k1:=fun w S hw=>gT w S hw i hi;have e:dn++(rs.take (i+1)).flatMap (fun x=>wB (eu x))=dn++(rs.take i).flatMap (fun x=>wB (eu x))++(fun x=>wB (eu x)) rs[i]:=by
   rw[bq hi,List.flatMap_append,List.append_assoc];simp
  obtain ⟨d,hd⟩:∃d,d=dn++(rs.take i).flatMap (fun x=>wB (eu x)):=⟨_,rfl⟩;obtain ⟨m,hm⟩:∃m,m=rs[i]:=⟨_,rfl⟩;simp only[<-hd,<-hm] at cY mj e k1 qZ ⊢;clear gr gs ge gT vC F5 KC hd hm qk hv hlen;have m0:bw 2 m.id:=qZ (2,[m.id,m.x,m.y]) (by simp[eu]) _ (by simp);have m1:bw 2 m.x:=qZ (2,[m.id,m.x,m.y]) (by simp[eu]) _ (by simp);have m2:bw 2 m.y:=qZ (2,[m.id,m.x,m.y]) (by simp[eu]) _ (by simp);have m3:bw 1 m.label:=qZ (1,[m.label]) (by simp[eu]) _ (by simp);refine aI.az fun F2 cf=>?_;repeat' ((conv=>whnf);first|with_reducible apply af<;>intro _|refine aM.drawn aa rfl rfl ?_|with_reducible refine And.intro (aN.mk ⟨_,rfl,rfl⟩) ?_|refine And.intro (aN.mk ⟨_,rfl,tU⟩) ?_|(exfalso;exact bT hi (by assumption))|refine al.bC aa rfl rfl rfl rfl rfl hi ?_|refine al.aR (i:=0) (v:=.agg (lE m)) rfl k1 rfl rfl ?_|refine ky.mk ?_ ?_|refine kL 2 (dC 2 m.id m0) eF rfl rfl ⟨ko,tU⟩ fun Am nm dm G qj jC=>?_|refine kL 2 (dC 2 m.x m1) eF rfl rfl ⟨ko,tU⟩ fun Am nm dm G qj jC=>?_|refine kL 2 (dC 2 m.y m2) eF rfl rfl ⟨ko,tU⟩ fun Am nm dm G qj jC=>?_|refine kL 2 (dC 1 m.label m3) eF rfl rfl ⟨ko,tU⟩ fun Am nm dm G qj jC=>?_|(show F2 _ _ _;subst cf;refine aI.az fun F2 cf=>?_)|(show F2 _ _ _;subst cf)|(show F _ _ _;subst hF;refine aI.az fun F hF=>?_)|(show F _ _ _;subst hF)|refine ag aa rfl ?_)
  all_goals (try conv=>whnf)
  have hz:dm=d++(fun x=>wB (eu x)) m:=by
   clear k1 e;subst_vars;simp[wB,eu,gG,List.append_assoc]
  exact ⟨⟨i+1,.slice (some Am) dm.length nm⟩,[0,1,2],⟨⟨hi,.inr ⟨Am,nm,by rw[e,<-hz]⟩⟩,Nat.sub_lt_sub_left hi (Nat.lt_succ_self _)⟩,rfl,⟨rr,rr,⟨rfl,ax rfl (ak (by first|omega|(simp only[];omega)) (by first|omega|(simp only[];omega)))⟩,tU⟩,⟨ko,⟨_,rfl,rfl⟩,⟨_,rfl,by simp only[e,<-hz];exact kp⟩,tU⟩⟩
 obtain rfl:i=rs.length:=by omega
 have e0:dn++(rs.take rs.length).flatMap (fun x=>wB (eu x))=dn++rs.flatMap (fun x=>wB (eu x)):=by rw[List.take_length]
 simp only[e0] at cY mj ⊢;obtain ⟨c2,NI⟩:∃c,c=dn++rs.flatMap (fun x=>wB (eu x)):=⟨_,rfl⟩;simp only[<-NI] at cY mj ⊢;clear hv hlen e0;repeat' ((conv=>whnf);first|with_reducible apply af<;>intro _|refine aM.drawn aa rfl rfl ?_|with_reducible refine And.intro (aN.mk ⟨_,rfl,rfl⟩) ?_|refine And.intro (aN.mk ⟨_,rfl,tU⟩) ?_|(exfalso;exact cF hi (by assumption))|refine kL 2 (dC 2 (ss.length:Int) p2) eF rfl rfl ⟨ko,tU⟩ fun An nn dn G Dy jg=>?_|(show F _ _ _;subst hF;refine aI.az fun F hF=>?_)|(show F _ _ _;subst hF)|refine ag aa rfl ?_)
 clear hi;have g1:dn.length<=23000000:=by omega
 have g1':0<dn.length:=by omega
 refine aV aa rfl (fun s:Hb=>[(1,.ptr 1 0),(3,.lit s.v),(11,iA (s.i:Nat))]) (fun s=>[.res R,.cells (bG.a ⟨ms,tk.length,rs,ss,⟨⟨xt⟩⟩,es,past,om,ot,oZ,os,oe,cm,ct,cr,cs,ce⟩) 28,.res (aA cB 1 da s.v (dn++(ss.take s.i).flatMap (fun x=>wB (ez x))))]) (fun s=>s.i<=ss.length/\cS s.v (dn++(ss.take s.i).flatMap (fun x=>wB (ez x)))) (fun s=>ss.length - s.i) ⟨0,.slice (some An) dn.length nn⟩ ⟨Nat.zero_le _,.inr ⟨An,nn,by simp⟩⟩ [0,1,2] ⟨rfl,⟨rr,rr,rr,tU⟩,⟨ko,⟨_,rfl,rfl⟩,⟨_,rfl,by simp only[List.take_zero,List.flatMap_nil,List.append_nil];exact kp⟩,tU⟩⟩ ?_;rintro ⟨i,v⟩ ⟨g9,hv⟩;simp only[] at g9 hv;have hlen:((ss.take i).flatMap (fun x=>wB (ez x))).length<=60000 * 11:=by rw[fU (fun r=>CX r),List.length_take];exact Nat.mul_le_mul_right _ (by omega)
 have cY:(dn++(ss.take i).flatMap (fun x=>wB (ez x))).length<=23000000+1000000:=by rw[List.length_append];omega
 have mj:0<(dn++(ss.take i).flatMap (fun x=>wB (ez x))).length:=by rw[List.length_append];omega
 obtain ⟨A2,n2,rfl⟩:=mc hv (List.length_pos_iff.1 mj);by_cases hi:i<ss.length
 ·have qZ:=F5 _ (List.getElem_mem hi);obtain ⟨a1,rfl,gT⟩:=gs.at hi;have k1:=fun w S hw=>gT w S hw i hi;have e:dn++(ss.take (i+1)).flatMap (fun x=>wB (ez x))=dn++(ss.take i).flatMap (fun x=>wB (ez x))++(fun x=>wB (ez x)) ss[i]:=by
   rw[bq hi,List.flatMap_append,List.append_assoc];simp
  obtain ⟨d,hd⟩:∃d,d=dn++(ss.take i).flatMap (fun x=>wB (ez x)):=⟨_,rfl⟩;obtain ⟨m,hm⟩:∃m,m=ss[i]:=⟨_,rfl⟩;simp only[<-hd,<-hm] at cY mj e k1 qZ ⊢;clear gr gs ge gT vC F5 KC hd hm qk hv hlen;have m0:bw 2 m.id:=qZ (2,[m.id]) (by simp[ez]) _ (by simp);have m1:pb (gG m.x0 m.y0 m.x1 m.y1):=fun p hp=>qZ p (by rw[List.mem_singleton.1 hp];simp[ez]);have m2:bw 1 m.label:=qZ (1,[m.label]) (by simp[ez]) _ (by simp);refine aI.az fun F2 cf=>?_;repeat' ((conv=>whnf);first|with_reducible apply af<;>intro _|refine aM.drawn aa rfl rfl ?_|with_reducible refine And.intro (aN.mk ⟨_,rfl,rfl⟩) ?_|refine And.intro (aN.mk ⟨_,rfl,tU⟩) ?_|(exfalso;exact bT hi (by assumption))|refine al.bC aa rfl rfl rfl rfl rfl hi ?_|refine al.aR (i:=0) (v:=.agg (pG m)) rfl k1 rfl rfl ?_|refine ky.mk ?_ ?_|refine kL 2 (dC 2 m.id m0) eF rfl rfl ⟨ko,tU⟩ fun Am nm dm G qj jC=>?_|refine kL 2 (Jh (x0:=m.x0) (y0:=m.y0) (x1:=m.x1) (y1:=m.y1) (by omega) m1 (by omega)) Mk rfl rfl ⟨ko,tU⟩ fun Am nm dm G qj jC=>?_|refine kL 2 (dC 1 m.label m2) eF rfl rfl ⟨ko,tU⟩ fun Am nm dm G qj jC=>?_|(show F2 _ _ _;subst cf;refine aI.az fun F2 cf=>?_)|(show F2 _ _ _;subst cf)|(show F _ _ _;subst hF;refine aI.az fun F hF=>?_)|(show F _ _ _;subst hF)|refine ag aa rfl ?_)
  all_goals (try conv=>whnf)
  have hz:dm=d++(fun x=>wB (ez x)) m:=by
   clear k1 e;subst_vars;simp[wB,ez,gG,List.append_assoc]
  exact ⟨⟨i+1,.slice (some Am) dm.length nm⟩,[0,1,2],⟨⟨hi,.inr ⟨Am,nm,by rw[e,<-hz]⟩⟩,Nat.sub_lt_sub_left hi (Nat.lt_succ_self _)⟩,rfl,⟨rr,rr,⟨rfl,ax rfl (ak (by first|omega|(simp only[];omega)) (by first|omega|(simp only[];omega)))⟩,tU⟩,⟨ko,⟨_,rfl,rfl⟩,⟨_,rfl,by simp only[e,<-hz];exact kp⟩,tU⟩⟩
 obtain rfl:i=ss.length:=by omega
 have e0:dn++(ss.take ss.length).flatMap (fun x=>wB (ez x))=dn++ss.flatMap (fun x=>wB (ez x)):=by rw[List.take_length]
 simp only[e0] at cY mj ⊢;obtain ⟨c3,PW⟩:∃c,c=dn++ss.flatMap (fun x=>wB (ez x)):=⟨_,rfl⟩;simp only[<-PW] at cY mj ⊢;clear hv hlen e0;repeat' ((conv=>whnf);first|with_reducible apply af<;>intro _|refine aM.drawn aa rfl rfl ?_|with_reducible refine And.intro (aN.mk ⟨_,rfl,rfl⟩) ?_|refine And.intro (aN.mk ⟨_,rfl,tU⟩) ?_|(exfalso;exact cF hi (by assumption))|refine kL 2 (dC 2 (xt.length:Int) p3) eF rfl rfl ⟨ko,tU⟩ fun An nn dn G Dy jg=>?_|(show F _ _ _;subst hF;refine aI.az fun F hF=>?_)|(show F _ _ _;subst hF)|refine ag aa rfl ?_)
 clear hi;have g1:dn.length<=25000000:=by omega
 have g1':0<dn.length:=by omega
 refine aV aa rfl (fun s:Hb=>[(1,.ptr 1 0),(3,.lit s.v),(13,iA (s.i:Nat))]) (fun s=>[.res R,.cells (bG.a ⟨ms,tk.length,rs,ss,⟨⟨xt⟩⟩,es,past,om,ot,oZ,os,oe,cm,ct,cr,cs,ce⟩) 28,.res (aA cB 1 da s.v (dn++xt.take s.i))]) (fun s=>s.i<=xt.length/\cS s.v (dn++xt.take s.i)) (fun s=>xt.length - s.i) ⟨0,.slice (some An) dn.length nn⟩ ⟨Nat.zero_le _,.inr ⟨An,nn,by simp⟩⟩ [0,1,2] ⟨rfl,⟨rr,rr,rr,tU⟩,⟨ko,⟨_,rfl,rfl⟩,⟨_,rfl,by simp only[List.take_zero,List.append_nil];exact kp⟩,tU⟩⟩ ?_;rintro ⟨i,v⟩ ⟨g9,hv⟩;simp only[] at g9 hv;have cY:(dn++xt.take i).length<=26000000:=by rw[List.length_append,List.length_take];omega
 have mj:0<(dn++xt.take i).length:=by rw[List.length_append];omega
 obtain ⟨A2,n2,rfl⟩:=mc hv (List.length_pos_iff.1 mj);by_cases hi:i<xt.length
 ·have e:dn++xt.take (i+1)=dn++xt.take i++[xt[i]]:=by rw[bq hi,List.append_assoc]
  obtain ⟨d,hd⟩:∃d,d=dn++xt.take i:=⟨_,rfl⟩;simp only[<-hd] at cY mj e ⊢;clear gr gs ge vC F5 KC hd qk hv;refine aI.az fun F2 cf=>?_;repeat' ((conv=>whnf);first|with_reducible apply af<;>intro _|refine aM.drawn aa rfl rfl ?_|with_reducible refine And.intro (aN.mk ⟨_,rfl,rfl⟩) ?_|refine And.intro (aN.mk ⟨_,rfl,tU⟩) ?_|(exfalso;exact bT hi (by assumption))|refine al.eU (l:=xt) (k:=i) rfl rfl rfl rfl rfl hi ?_|(refine al.om (eH.iw aa ue fE (by decide) uk (i:=2) (y:=xt[i]) (l:=d) (v:=.slice (some A2) d.length n2) (R1:=aB) (R':=fun v'=>aA cB 1 da v' (d++[xt[i]])) rfl rfl rfl rfl rfl rfl rfl mZ (fun v'=>pd) (by omega) ?_);intro Am nm)|(show F2 _ _ _;subst cf;refine aI.az fun F2 cf=>?_)|(show F2 _ _ _;subst cf)|(show F _ _ _;subst hF;refine aI.az fun F hF=>?_)|(show F _ _ _;subst hF)|refine ag aa rfl ?_)
  all_goals (try conv=>whnf)
  exact ⟨⟨i+1,.slice (some Am) (d.length+1) nm⟩,[0,1,2],⟨⟨hi,.inr ⟨Am,nm,by rw[e,List.length_append];rfl⟩⟩,Nat.sub_lt_sub_left hi (Nat.lt_succ_self _)⟩,rfl,⟨rr,rr,⟨rfl,ax rfl (ak (by first|omega|(simp only[];omega)) (by first|omega|(simp only[];omega)))⟩,tU⟩,⟨ko,⟨_,rfl,rfl⟩,⟨_,rfl,by simp only[e];exact kp⟩,tU⟩⟩
 obtain rfl:i=xt.length:=by omega
 have e0:dn++xt.take xt.length=dn++xt:=by rw[List.take_length]
 simp only[e0] at cY mj ⊢;obtain ⟨c4,hc4⟩:∃c,c=dn++xt:=⟨_,rfl⟩;simp only[<-hc4] at cY mj ⊢;clear hv e0;repeat' ((conv=>whnf);first|with_reducible apply af<;>intro _|refine aM.drawn aa rfl rfl ?_|with_reducible refine And.intro (aN.mk ⟨_,rfl,rfl⟩) ?_|refine And.intro (aN.mk ⟨_,rfl,tU⟩) ?_|(exfalso;exact cF hi (by assumption))|refine kL 2 (dC 4 (es.length:Int) p4) eF rfl rfl ⟨ko,tU⟩ fun An nn dn G Dy jg=>?_|(show F _ _ _;subst hF;refine aI.az fun F hF=>?_)|(show F _ _ _;subst hF)|refine ag aa rfl ?_)
 clear hi;have g1:dn.length<=27000000:=by omega
 have g1':0<dn.length:=by omega
 refine aV aa rfl (fun s:Hb=>[(1,.ptr 1 0),(3,.lit s.v),(14,iA (s.i:Nat))]) (fun s=>[.res R,.cells (bG.a ⟨ms,tk.length,rs,ss,⟨⟨xt⟩⟩,es,past,om,ot,oZ,os,oe,cm,ct,cr,cs,ce⟩) 28,.res (aA cB 1 da s.v (dn++(es.take s.i).flatMap (fun x=>wB (eh x))))]) (fun s=>s.i<=es.length/\cS s.v (dn++(es.take s.i).flatMap (fun x=>wB (eh x)))) (fun s=>es.length - s.i) ⟨0,.slice (some An) dn.length nn⟩ ⟨Nat.zero_le _,.inr ⟨An,nn,by simp⟩⟩ [0,1,2] ⟨rfl,⟨rr,rr,rr,tU⟩,⟨ko,⟨_,rfl,rfl⟩,⟨_,rfl,by simp only[List.take_zero,List.flatMap_nil,List.append_nil];exact kp⟩,tU⟩⟩ ?_;rintro ⟨i,v⟩ ⟨g9,hv⟩;simp only[] at g9 hv;have hlen:((es.take i).flatMap (fun x=>wB (eh x))).length<=60000 * 8:=by rw[fU (fun r=>By r),List.length_take];exact Nat.mul_le_mul_right _ (by omega)
 have cY:(dn++(es.take i).flatMap (fun x=>wB (eh x))).length<=27000000+1000000:=by rw[List.length_append];omega
 have mj:0<(dn++(es.take i).flatMap (fun x=>wB (eh x))).length:=by rw[List.length_append];omega
 obtain ⟨A2,n2,rfl⟩:=mc hv (List.length_pos_iff.1 mj);by_cases hi:i<es.length
 ·have qZ:=KC _ (List.getElem_mem hi);obtain ⟨a1,rfl,gT⟩:=ge.at hi;have k1:=fun w S hw=>gT w S hw i hi;have e:dn++(es.take (i+1)).flatMap (fun x=>wB (eh x))=dn++(es.take i).flatMap (fun x=>wB (eh x))++(fun x=>wB (eh x)) es[i]:=by
   rw[bq hi,List.flatMap_append,List.append_assoc];simp
  obtain ⟨d,hd⟩:∃d,d=dn++(es.take i).flatMap (fun x=>wB (eh x)):=⟨_,rfl⟩;obtain ⟨m,hm⟩:∃m,m=es[i]:=⟨_,rfl⟩;simp only[<-hd,<-hm] at cY mj e k1 qZ ⊢;clear gr gs ge gT vC F5 KC hd hm qk hv hlen;have m0:bw 2 m.user:=qZ (2,[m.user]) (by simp[eh]) _ (by simp);have m1:bw 1 m.op:=qZ (1,[m.op,m.status]) (by simp[eh]) _ (by simp);have m2:bw 1 m.status:=qZ (1,[m.op,m.status]) (by simp[eh]) _ (by simp);have m3:bw 4 m.tick:=qZ (4,[m.tick]) (by simp[eh]) _ (by simp);refine aI.az fun F2 cf=>?_;repeat' ((conv=>whnf);first|with_reducible apply af<;>intro _|refine aM.drawn aa rfl rfl ?_|with_reducible refine And.intro (aN.mk ⟨_,rfl,rfl⟩) ?_|refine And.intro (aN.mk ⟨_,rfl,tU⟩) ?_|(exfalso;exact bT hi (by assumption))|refine al.bC aa rfl rfl rfl rfl rfl hi ?_|refine al.aR (i:=0) (v:=.agg (Bt m)) rfl k1 rfl rfl ?_|refine ky.mk ?_ ?_|refine kL 2 (dC 2 m.user m0) eF rfl rfl ⟨ko,tU⟩ fun Am nm dm G qj jC=>?_|refine kL 2 (dC 1 m.op m1) eF rfl rfl ⟨ko,tU⟩ fun Am nm dm G qj jC=>?_|refine kL 2 (dC 1 m.status m2) eF rfl rfl ⟨ko,tU⟩ fun Am nm dm G qj jC=>?_|refine kL 2 (dC 4 m.tick m3) eF rfl rfl ⟨ko,tU⟩ fun Am nm dm G qj jC=>?_|(show F2 _ _ _;subst cf;refine aI.az fun F2 cf=>?_)|(show F2 _ _ _;subst cf)|(show F _ _ _;subst hF;refine aI.az fun F hF=>?_)|(show F _ _ _;subst hF)|refine ag aa rfl ?_)
  all_goals (try conv=>whnf)
  have hz:dm=d++(fun x=>wB (eh x)) m:=by
   clear k1 e;subst_vars;simp[wB,eh,gG,List.append_assoc]
  exact ⟨⟨i+1,.slice (some Am) dm.length nm⟩,[0,1,2],⟨⟨hi,.inr ⟨Am,nm,by rw[e,<-hz]⟩⟩,Nat.sub_lt_sub_left hi (Nat.lt_succ_self _)⟩,rfl,⟨rr,rr,⟨rfl,ax rfl (ak (by first|omega|(simp only[];omega)) (by first|omega|(simp only[];omega)))⟩,tU⟩,⟨ko,⟨_,rfl,rfl⟩,⟨_,rfl,by simp only[e,<-hz];exact kp⟩,tU⟩⟩
 obtain rfl:i=es.length:=by omega
 have e0:dn++(es.take es.length).flatMap (fun x=>wB (eh x))=dn++es.flatMap (fun x=>wB (eh x)):=by rw[List.take_length]
 simp only[e0] at cY mj ⊢;obtain ⟨c5,hc5⟩:∃c,c=dn++es.flatMap (fun x=>wB (eh x)):=⟨_,rfl⟩;simp only[<-hc5] at cY mj ⊢;clear hv hlen e0;have hz:fin=c5++cG 4 (lH c5 % 4294967296):=by
  have e:c5=c1++cV 2 rs.length++(rs.flatMap fun x=>wB (eu x))++cV 2 ss.length++(ss.flatMap fun x=>wB (ez x))++[(xt.length:Int)].flatMap (bs 2)++xt++cV 4 es.length++es.flatMap fun x=>wB (eh x):=by
   clear qk;subst_vars;simp[cV,List.append_assoc]
  rw[qk,e]
 clear qk gr gs ge vC F5 KC;repeat' ((conv=>whnf);first|with_reducible apply af<;>intro _|refine aM.drawn aa rfl rfl ?_|with_reducible refine And.intro (aN.mk ⟨_,rfl,rfl⟩) ?_|refine And.intro (aN.mk ⟨_,rfl,tU⟩) ?_|(exfalso;exact cF hi (by assumption))|refine (UL (l:=c5) (by omega)).g [2] rfl rfl ⟨ko,tU⟩ fun G=>?_|refine kL 2 (pF (k:=4) (n:=lH c5 % 4294967296) (List.length_pos_iff.1 (by omega)) (by decide) (by decide) (Nat.lt_trans (Nat.mod_lt _ (by decide)) (by decide)) (Nat.lt_of_lt_of_eq (Nat.mod_lt _ (by decide)) (by decide)) (by omega)) bM rfl rfl ⟨ko,tU⟩ fun Am nm dm G qj jC=>?_|(show F _ _ _;subst hF;refine aI.az fun F hF=>?_)|(show F _ _ _;subst hF)|refine ag aa rfl ?_)
 all_goals (try conv=>whnf)
 exact ⟨Am,nm,dm,by rw[hz,qj],rfl,_,_,rfl⟩
open Ev
def q0:bG:=⟨[],0,[],[],⟨#[]⟩,[],0,none,none,none,none,none,0,0,0,0,0⟩
theorem UC:CP [] 16 [.agg GW,.agg GW] [.res aB,.res aB] (lf (bA true) [.res aB,.res aB]):=by
 have h:q0.Rd aB:=⟨cU.nil,cU.nil,cU.nil,cU.nil⟩;have k:q0.Tk aB []:=⟨rfl,cU.nil,fun x hx=>(by cases hx),fun x hx=>(by cases hx)⟩;exact (RS h k h k ⟨rfl,rfl,rfl,rfl,rfl,rfl,rfl⟩ (by decide) (by decide) (by decide) (by decide) (by decide) (fun x hx=>by cases hx)).mono fun v H' ⟨h1,G,h2⟩=>⟨h1,G,h2⟩
theorem UU{R:aC}{oa:Option Addr}{c:Nat}{l:List UInt8}(h:(⟨oa,c,l,false⟩:aH).Ok R):CP [] 5 [.lit (.slice oa l.length c)] [.res R] (fun v H'=>v=bA true/\∃G,H'=.res R::G):=by
 have sY:=L2 h;refine ag aa rfl ?_;refine eX.of rfl rfl ?_;refine aI.az fun F hF=>?_;repeat' ((conv=>whnf);first|(show F _ _ _;subst hF;refine aI.az fun F hF=>?_)|(show F _ _ _;subst hF))
 conv=>whnf
 refine af (fun hl=>?_) (fun hl=>?_)
 ·repeat' ((conv=>whnf);first|(show F _ _ _;subst hF;refine aI.az fun F hF=>?_)|(show F _ _ _;subst hF)|refine yU ?_)
  all_goals (try conv=>whnf)
  exact ⟨rfl,_,rfl⟩
 have hl:l.length<=4000:=by
  have:=dF1 hl;omega
 repeat' ((conv=>whnf);first|(show F _ _ _;subst hF;refine aI.az fun F hF=>?_)|(show F _ _ _;subst hF))
 conv=>whnf
 refine (Rw h).use [0] rfl rfl ⟨ko,tU⟩ ?_;rintro _ _ (⟨j1,_⟩|⟨_,j2,rfl,G,rfl⟩|⟨j1,j2,q,tk,RR,kV,bu,lL,Xc,rfl,G3,G4,G5,rfl⟩)
 ·exact absurd j1 (by show ¬65536<l.length;omega)
 ·refine ⟨[],?_⟩;repeat' ((conv=>whnf);first|(refine aj.pre (eg.more (R:=aB) rfl (bj.tX _)) (aj.pre (eg.more (R:=aB) rfl (bj.tX _)) ?_);refine UC.g [2,3] rfl rfl ⟨ko,ko,tU⟩ fun G=>?_)|(show F _ _ _;subst hF;refine aI.az fun F hF=>?_)|(show F _ _ _;subst hF)|refine yU ?_)
  all_goals (try conv=>whnf)
  exact ⟨rfl,_,rfl⟩
 ·obtain ⟨j3,j4,j5⟩:=j2;have e1:(aH.mW ⟨oa,c,l,false⟩)=((aH.mW ⟨oa,c,l,false⟩).1,(aH.mW ⟨oa,c,l,false⟩).2):=rfl;obtain ⟨⟨l0,l1,l2,l3⟩,hA⟩:=IU e1 kV (by show l.length<=_;omega);have NV:=MR kV;have hi:eK q tk=true:=by rw[zA NV (VS _) lL.nt];exact j4
  have hB:lG q tk=l:=by rw[CY NV];exact j5
  have ho:=JN lL l0 l1 l2 l3 hA hi;have hr:(hU q.s).2.err=0:=by
   unfold eK at hi;simp only[Bool.and_eq_true] at hi;exact dT1 hi.2.1.1
  have acs:=xE hr;have kR:(∀x∈tk,x.l.length<=x.c)->_:=fun hc=>Rz bu lL (by omega) (by omega) (by omega) (by omega) (fun x hx=>⟨hc x hx,Nat.le_trans (U8 ho x hx) (by decide)⟩) (by omega);rw[Jn,hi] at kR;have kB:=Uk bu lL ho;rw[hB] at kB;have kS:=fun (A2:Addr) (n2:Nat)=>RQ (c:=n2) (d:=c) (Jc (A:=A2) (n:=n2) (l:=l)) sY (by omega);rw[decide_eq_true rfl] at kS;refine ⟨[3],?_⟩;repeat' ((conv=>whnf);first|(refine aj.nY 1 rfl Xc fun hc=>?_;refine (kR hc).g [1] rfl rfl ⟨ko,tU⟩ fun G=>?_)|(refine kB.use [1] rfl rfl ⟨ko,tU⟩ ?_;rintro _ _ ⟨A2,n2,d2,rfl,rfl,G1,G,rfl⟩;refine ⟨[2],?_⟩)|refine (kS _ _).g [3,0] rfl rfl ⟨ko,ko,tU⟩ fun G=>?_|(show F _ _ _;subst hF;refine aI.az fun F hF=>?_)|(show F _ _ _;subst hF)|refine yU ?_)
  all_goals (try conv=>whnf)
  exact ⟨rfl,_,rfl⟩
open Go.RowKit Go.ChangeShapes Go.WideShapes Go.Deep
theorem El{α:Type}{k:Nat}{enc:α->List Value}(hk:∀a,(enc a).length=k){w:World}{b:Nat}:∀(l:List α) (off:Nat),(∀i (hi:i<l.length),ir w b (off+i * k) (enc l[i]))->ir w b off (l.flatMap enc)
 | [],off,_=>fun j u hu=>by simp at hu
 | a::l,off,h=>fun j u hu=>by
   rw[List.flatMap_cons] at hu;by_cases hj:j<(enc a).length
   ·rw[List.getElem?_append_left hj] at hu;have:=h 0 (by simp) j u hu;simpa using this
   ·rw[List.getElem?_append_right (by omega)] at hu;have h2:ir w b (off+k) (l.flatMap enc):=El hk l (off+k) fun i hi=>by
     have:=h (i+1) (by simpa using hi);rw[show off+k+i * k=off+(i+1) * k by rw[Nat.add_mul];omega];simpa using this
    have:=h2 _ u hu;rw[hk] at this;rwa [show off+k+(j - k)=off+j by have:=hk a;omega] at this
theorem DT{a:Addr}{w:World}{j:Nat}{u:Value}(h:w.cell? a=some u):a.add j=⟨a.block,a.off+j,none⟩/\a.spot=none:=by
 obtain ⟨b,off,sp⟩:=a;have hs:sp=none:=by
  cases sp with
  | none=>rfl
  | some s=>
    unfold World.cell? at h;split at h<;>simp at h
 subst hs;refine ⟨?_,rfl⟩;unfold Addr.add;split<;>simp_all
section
variable{H:Type}{enc:TypeId×Value->H}{P:Program}{w:World}{base:Nat}{spare:Nat->Bool}{held:Bool}
theorem QX{α:Type}[Inhabited α]{enc':α->List Value}{k:Nat}(ZM:0<k)(hk:∀a,(enc' a).length=k)(Pa:α->Prop){t e:TypeId}{r:Reach}{b0:Nat}{v:Value}{d:DataW H}{ps:List MemPlace}(ht:P.underlying t=some (.slice e))(hC:P.cellsOf e=k)
  (FO:∀n Nu x,DataW.trod enc P w base spare held n e Nu=some x->Nu.length=k->∃a,Nu=enc' a/\Pa a)
  (hv:Value.okWide P w r b0 t v) (h:DataW.Trod enc P w base spare held t v d ps):∃l:List α,Sl enc' w w.heap.size v l/\∀a∈l,Pa a:=by
 obtain ⟨a0,Mj,YS,rfl⟩:=okWide_slice ht hv;obtain ⟨fuel,hf⟩:=h;rcases open_slice ht hf with ⟨pR,_⟩|⟨a,len,cap,m,n,D,Pl,pR,hb,hl,hm,Ts,_,hi⟩
 ·simp only[Value.cells,List.cons.injEq,Value.slice.injEq,and_true] at pR;obtain ⟨rfl,rfl,rfl⟩:=pR;exact ⟨[],Sl.nil,by simp⟩
 ·simp only[Value.cells,List.cons.injEq,Value.slice.injEq,and_true] at pR;obtain ⟨rfl,rfl,rfl⟩:=pR;have jC:Mj<=m:=by rw[Ts];split<;>omega
  obtain ⟨f,hf⟩:=choose_lt (n:=Mj) (p:=fun i x=>w.cells? base (a.add (i * k)) k=some (enc' x)/\Pa x) (fun i tf=>by
   obtain ⟨Nu,hc,htr⟩:=hi i (by omega);rw[hC] at hc;obtain ⟨_,yq,_⟩:=World.cells?_some hc;obtain ⟨x,rfl,hx⟩:=FO _ _ _ htr yq;exact ⟨x,hc,hx⟩)
  refine ⟨(List.range Mj).map f,⟨some a,YS,by simp,by simpa using hl,hm,fun hp=>?_⟩,fun x hx=>?_⟩
  ·have hlen:0<Mj:=by simpa using hp
   have h0:=(World.cells?_some (hf 0 hlen).1).2.2 0 ZM;have XD:∃u,w.cell? a=some u:=by
    have e:(a.add (0 * k)).add 0=a:=by simp[Addr.add]
    rw[e] at h0;exact ⟨_,h0.trans (List.getElem?_eq_getElem (by rw[hk];exact ZM))⟩
   obtain ⟨u,hu⟩:=XD;have KD:=fun j=>(DT (j:=j) hu).1;have lK:=(DT (j:=0) hu).2;obtain ⟨b,off,sp⟩:=a;simp only at lK;subst lK;refine ⟨b,off,rfl,World.block_lt_of_cell? w ⟨b,off,none⟩ hu,El hk _ _ fun i hi=>?_⟩;simp only[List.length_map,List.length_range] at hi;simp only[List.getElem_map,List.getElem_range];intro j u' Ab;have KH:j<k:=by
    have:=(lE1.1 Ab).1;rwa [hk] at this
   have hc:=(World.cells?_some (hf i hi).1).2.2 j KH;rw[Ab,Go.Deep.add_add,KD] at hc;simpa [Nat.add_assoc] using hc
  ·simp only[List.mem_map,List.mem_range] at hx;obtain ⟨i,hi,rfl⟩:=hx;exact (hf i hi).2
end
def OT(w:World)(e:Ending)(w':World):Prop:=e=.returned (.bool true)/\Below w.heap.size w w'
section
variable{H:Type}{enc:TypeId×Value->H}{P:Program}
theorem xY{w:World}{base:Nat}{spare:Nat->Bool}{held:Bool}:∀(ts:List TypeId) {vs:List Value} {ds:List (DataW H)} {ps:List MemPlace},DataW.TrodAll enc P w base spare held ts vs ds ps->ds.length=ts.length
 | [],_,_,_,h=>by obtain ⟨_,rfl,_⟩:=trodAll_nil h;rfl
 | t::ts,_,_,_,h=>by
   obtain ⟨v,vs,d,ds,p,q,rfl,rfl,rfl,h1,h2⟩:=trodAll_cons h;simp[xY ts h2]
theorem ud(hl:laidOutB P=true){W W':World}{sp:Nat->Bool}:∀(ts:List TypeId) {vs:List Value} {ds:List (DataW H)} {ps:List MemPlace},(∀t∈ts,P.readableRec t=true/\t<P.types.size) ->
  DataW.TrodAll enc P W 0 (fun _=>true) true ts vs ds ps->(∀p∈ps,W.sameAt W' p)->(∀p∈ps,sp p.block=true)->DataW.TrodAll enc P W' 0 sp true ts vs ds ps
 | [],_,_,_,_,h,_,_=>by
   obtain ⟨rfl,rfl,rfl⟩:=trodAll_nil h;exact trodAll_mk0
 | t::ts,_,_,_,nP,h,eI,hs=>by
   obtain ⟨v,vs,d,ds,p,q,rfl,rfl,rfl,h1,h2⟩:=trodAll_cons h;obtain ⟨hr,xd⟩:=nP t (List.mem_cons_self ..);exact ⟨p,q,WideElems.Trod_stays hl hr xd h1 (fun x hx=>eI x (List.mem_append.2 (.inl hx))) (fun x hx=>hs x (List.mem_append.2 (.inl hx))),
    ud hl ts (fun t ht=>nP t (List.mem_cons_of_mem _ ht)) h2 (fun x hx=>eI x (List.mem_append.2 (.inr hx))) (fun x hx=>hs x (List.mem_append.2 (.inr hx))),rfl⟩
theorem Ek(hl:laidOutB P=true){f:Func}{s:ChangeSpec}{apart fresh handsOn:Bool}{W W':World}{args:Array Value}{ds gs:List (DataW H)}{before:List MemPlace}{tb:TypeId}
  (hb:P.underlying tb=some .bool) (hr:f.resultTypes=#[tb]) (nP:∀t∈f.params.toList,P.readableRec t=true/\t<P.types.size) (hv:s.vars=[])
  (B4:∀ds:List (DataW H),ds.length=f.params.toList.length->(s.fn H ds).results=[.lit (.bool true)]/\(s.fn H ds).args=ds/\(s.fn H ds).vars=[])
  (hW:DataW.Whole enc P f.params.toList s.vars apart W args.toList ds gs before) (qi:Below W.heap.size W W'):s.post enc P f apart fresh handsOn false W args (.bool true) W':=by
 have an:∀p∈before,p.block<W.heap.size:=fun p hp=>hW.lt p hp;have PR:=hW;obtain ⟨p,q,hA,hV,rfl,NL,nN⟩:=hW;rw[hv] at hV;obtain ⟨rfl,rfl⟩:=trodVars_none hV;simp only[List.append_nil] at an;obtain ⟨e1,e2,e3⟩:=B4 ds (xY _ hA);refine ⟨ds,[],p++[],[],p,[],PR,?_,?_,?_,?_,fun h=>by cases h⟩
 ·rw[List.append_nil,e1,hr];exact trodAll_mk1 ⟨1,by simp[DataW.trod,Value.cells,hb]⟩
 ·rw[List.append_nil,e2];exact ud hl _ nP hA (fun x hx=>qi.same (an x hx)) (fun x hx=>by simpa using an x hx)
 ·rw[List.append_nil,e3,hv];trivial
 ·exact World.keptBut_mono (fun x hx=>⟨hx,.inr (.inl (by simpa using hx))⟩) (qi.frame (·∈p++[]))
theorem XT{C:Checked}(own:ownKnob C.prog.godebug=none)(hl:laidOutB C.prog=true){os:Os}(started:os.Started){f:FuncId}{fn:Func}{s:ChangeSpec}{apart fresh handsOn:Bool}{tb:TypeId}
  (Gj:C.prog.inits.idxOf? f=none) (BS:C.prog.funcs[f]?=some fn)
  (hb:C.prog.underlying tb=some .bool) (hr:fn.resultTypes=#[tb]) (nP:∀t∈fn.params.toList,C.prog.readableRec t=true/\t<C.prog.types.size) (hv:s.vars=[])
  (B4:∀ds:List (DataW H),ds.length=fn.params.toList.length->(s.fn H ds).results=[.lit (.bool true)]/\(s.fn H ds).args=ds/\(s.fn H ds).vars=[])
  (witness:∃(w:World) (tape:Tape) (i:Input),w.os=os/\(w.forCall tape i).Shaped C.prog/\i.vars=[]/\Input.okWide C.prog (w.forCall tape i) .any w.heap.size f i /\
   s.pre6 enc C.prog fn [] apart (w.forCall tape i).memory i.args/\({}:Assume).holds C.prog (lone (Frame.enter C.prog f i.args .normal) [] (w.forCall tape i)))
  (yi:∀(W:World) (base:Nat) (args:Array Value) (ds:List (DataW H)) (ps:List MemPlace),
   (∀(j:Nat) t v,fn.params[j]?=some t->args[j]?=some v->Value.okWide C.prog W .any base t v) ->
   DataW.TrodAll enc C.prog W 0 (fun _=>true) true fn.params.toList args.toList ds ps->Calls C.prog f args W (OT W)) :
  ReturnsInHanded {} C os f .any (s.pre6 enc C.prog fn [] apart) (s.post enc C.prog fn apart fresh handsOn false):=by
 refine returnsInHanded_of_change own started Gj BS witness ?_;intro W base args ds gs before rZ hW _ _;have PR:=hW;obtain ⟨p,q,hA,hV,rfl,NL,nN⟩:=hW;exact (yi W base args ds p rZ hA).mono fun e W' ⟨he,qi⟩=>⟨_,he,Ek hl hb hr nP hv B4 PR qi⟩
end
