/- Part of the proof: Rf10e Rf11 Rf11b Rf11c Rf11d. Conditions: as each states. -/
import Derived.Test.YtmbdghclhpboaaaGreatPw36
set_option linter.all false
set_option maxRecDepth 100000
set_option maxHeartbeats 8000000
namespace Go.Proofs.YtmbdghclhpboaaaGreat
open Ev
def Tj(s:List UInt8):AV->List af->Prop:=fun v H'=>((dp s).2.err=0/\FJ s v H')\/((dp s).2.err≠0/\∃R,((v=.tuple [.lit aO,.agg (pw (dp s).2)]/\∃G,H'=.res R::G)\/(v=.tuple [.slice 3 0 0 (.k 0),.agg (pw (dp s).2)]/\∃G1 G2 e G,H'=.res R::G1::G2::.cells [] e::G)))
structure Yw where
 b:Nat
 out:List Tk
 v:Value
theorem PE{s:List UInt8}:CP [] 95 [.lit (cU s)] [.res (aB oH 5 ow aO [])] (Tj s):=by
 by_cases hl:512<s.length
 ·have e:dp s=([],⟨2,1,1⟩):=by unfold dp;rw[if_pos hl]
  unfold Tj;rw[e];refine ae U rfl ?_;repeat' ((conv=>whnf);first|with_reducible apply aa<;>intro _|(exfalso;rename_i hx;have:=of_decide_eq_false hx;exact this (Int.ofNat_lt.2 hl))|refine ae U rfl ?_)
  all_goals (try conv=>whnf)
  all_goals exact .inr ⟨by decide,_,.inl ⟨rfl,_,rfl⟩⟩
 ·have e:dp s=jr s Pt.zero []:=by unfold dp;rw[if_neg hl];rfl
  unfold Tj FJ;rw[e];obtain ⟨TT,GI⟩:∃TT,TT=jr s Pt.zero []:=⟨_,rfl⟩;rw[<-GI];clear e;have Df:=@PC s 0 (Nat.zero_le _) (by omega);refine ae U rfl ?_;refine eP.of rfl rfl ?_;refine aF.au fun F hF=>?_;repeat' ((conv=>whnf);first|with_reducible apply aa<;>intro _|refine Df ?_|(exfalso;rename_i hx;have:=of_decide_eq_true hx;exact hl (Int.ofNat_lt.1 this))|(show F _ _ _;subst hF;refine aF.au fun F hF=>?_)|(show F _ _ _;subst hF)|refine ae U rfl ?_)
  refine aW U rfl (fun x:Yw=>[(0,.lit (cU s)),(3,.ptr 1 0),(4,.lit x.v),(5,iA (x.b+dW (s.drop x.b):Nat))]) (fun x=>[.res (aB oH 5 ow x.v x.out),.cells [iA 0,iA 0,iA 0] 86])
   (fun x=>x.b<=s.length/\jr (s.drop x.b) (iT s x.b) x.out=TT/\ep x.v x.out/\x.out.length<=x.b) (fun x=>s.length - x.b) ⟨0,[],aO⟩ ⟨Nat.zero_le _,GI.symm,.inl ⟨rfl,rfl⟩,Nat.le_refl _⟩ [0,1] ?_ ?_
  ·exact ⟨rfl,⟨rr,rr,rr,rr,tU⟩,⟨ko,⟨_,rfl,rfl⟩,tU⟩⟩
  ·rintro ⟨b,out,v⟩ ⟨h1,h3,h4,h5⟩;simp only[] at h1 h3 h4 h5;simp only[];obtain ⟨l,kW⟩:∃l,l=s.drop b:=⟨_,rfl⟩;have o9:l.length=s.length - b:=by rw[kW,List.length_drop]
   have hk:=DQ l;rw[<-kW] at h3 ⊢;obtain ⟨a,ha⟩:∃a,a=b+dW l:=⟨_,rfl⟩;have hq:(iT s b).ju (l.take (dW l))=iT s a:=by rw[ha,xR,kW]
   have hd:s.drop a=l.drop (dW l):=by rw[ha,kW,List.drop_drop]
   rw[<-ha];have WM:a<=s.length:=by omega
   have cx:=@Fc s a WM (by omega);by_cases hend:a=s.length
   ·have hT:TT=(out,jK.ok):=by rw[<-h3];exact B5 l _ out (by rw[<-hd,hend,List.drop_length])
    subst hT;obtain ⟨A,m,rfl⟩:=sO h4;clear hd hq h3 Df GI cx kW;refine aF.au fun F2 bR=>?_;repeat' ((conv=>whnf);first|with_reducible apply aa<;>intro _|(exfalso;rename_i hx;exact absurd (Int.ofNat_lt.1 (of_decide_eq_true hx):a<s.length) (by omega))|(show F2 _ _ _;subst bR;refine aF.au fun F2 bR=>?_)|(show F2 _ _ _;subst bR)|(show F _ _ _;subst hF;refine aF.au fun F hF=>?_)|(show F _ _ _;subst hF)|refine ae U rfl ?_)
    all_goals (try conv=>whnf)
    ·exact .inl ⟨rfl,A,m,_,⟨IC h4 rfl (by show out.length<=_;omega),fun _ _ h=>Bi h⟩,rfl,_,rfl⟩
   ·have ah:a<s.length:=by omega
    have hn:=RX ah (by omega);have aN:s.drop a≠[]:=fun h=>by have:=congrArg List.length h;rw[List.length_drop] at this;simp at this;omega
    unfold M8 at hn;obtain ⟨m,hm⟩:∃m,m=s.drop a:=⟨_,rfl⟩;rw[<-hm] at hn aN;have sc:m.length=s.length - a:=by rw[hm,List.length_drop]
    by_cases he:(b9 m).2=0
    ·have hT:=yW l m (iT s b) out (by rw[hm,hd]) aN he;rw[h3,hq] at hT;obtain ⟨c,r,v8⟩:∃c r,m=c::r:=by
      cases m with
      | nil=>exact absurd rfl aN
      | cons c r=>exact ⟨c,r,rfl⟩
     obtain ⟨Oi,wo⟩:=od c r (by rw[<-v8];exact he);rw[<-v8] at Oi wo;have G9:(b9 m).1.text.length<=m.length:=by
      have:=congrArg List.length wo;rw[List.length_take] at this;omega
     have LS:(iT s a).ju (m.take (b9 m).1.text.length)=iT s (a+(b9 m).1.text.length):=by rw[xR,hm]
     rw[LS] at hT;obtain ⟨t,ht⟩:∃t,t=b9 m:=⟨_,rfl⟩;rw[<-ht] at hn he Oi G9 hT;rw[he] at hn;obtain ⟨y,hy⟩:∃y:Tk,y={ t.1 with line:=(iT s a).line,aS:=(iT s a).aS }:=⟨_,rfl⟩;have zc:=@PC s (a+t.1.text.length) (by omega) (by omega);have Ha:IntKind.i64.wrap ((a:Int)+(((⟨t.1.text.toArray⟩:ByteArray).size:Nat):Int))=((a+t.1.text.length:Nat):Int):=aj (n:=(a:Int)+(t.1.text.length:Int)) (by omega) (by omega);clear hd hq ht v8 wo h3 Df GI LS;rcases h4 with ⟨rfl,rfl⟩|⟨A0,c0,rfl⟩
     ·refine aF.au fun F2 bR=>?_;repeat' ((conv=>whnf);first|with_reducible apply aa<;>intro _|(exfalso;rename_i hx;have:=of_decide_eq_false hx;exact this (Int.ofNat_lt.2 ah))|(refine hn.use [] rfl rfl trivial ?_;rintro _ _ ⟨t0,rfl,U4⟩;obtain rfl:=U4 rfl;refine ⟨[],?_⟩)|refine cx ?_|(refine dP.om (eU.k9 U zw sU (by decide) w8 (i:=0) (y:=y) (l:=([]:List Tk)) (v:=aO) (R1:=aA) (R':=fun v'=>aB oH 5 ow v' (([]:List Tk)++[y])) rfl rfl rfl rfl rfl (by rw[hy];rfl) rfl gD (fun v'=>iI) (by first|omega|(simp;done)) ?_);intro A2 m2)|(rw[Ha];refine zc ?_)|(show F2 _ _ _;subst bR;refine aF.au fun F2 bR=>?_)|(show F2 _ _ _;subst bR)|(show F _ _ _;subst hF;refine aF.au fun F hF=>?_)|(show F _ _ _;subst hF)|refine ae U rfl ?_)
      all_goals (try conv=>whnf)
      exact ⟨⟨a+t.1.text.length,([]:List Tk)++[y],.slice (some A2) (([]:List Tk).length+1) m2⟩,[0,1],⟨⟨by show a+_<=_;omega,by show jr (s.drop (a+t.1.text.length)) _ _=TT;rw[hT,<-List.drop_drop,<-hm,hy],.inr ⟨A2,m2,by simp⟩,by show (([]:List Tk)++[_]).length<=a+_;simp only[List.length_append,List.length_cons,List.length_nil] at h5 ⊢;omega⟩,by show s.length - (a+_)<s.length - b;omega⟩,rfl,⟨rr,rr,rr,rr,tU⟩,⟨⟨_,rfl,kp⟩,⟨_,rfl,rfl⟩,tU⟩⟩
     ·refine aF.au fun F2 bR=>?_;repeat' ((conv=>whnf);first|with_reducible apply aa<;>intro _|(exfalso;rename_i hx;have:=of_decide_eq_false hx;exact this (Int.ofNat_lt.2 ah))|(refine hn.use [] rfl rfl trivial ?_;rintro _ _ ⟨t0,rfl,U4⟩;obtain rfl:=U4 rfl;refine ⟨[],?_⟩)|refine cx ?_|(refine ai.om (eU.k9 U zw sU (by decide) w8 (i:=0) (y:=y) (l:=out) (v:=.slice (some A0) out.length c0) (R1:=aA) (R':=fun v'=>aB oH 5 ow v' (out++[y])) rfl rfl rfl rfl rfl (by rw[hy];rfl) rfl gD (fun v'=>iI) (by first|omega|(simp;done)) ?_);intro A2 m2)|(rw[Ha];refine zc ?_)|(show F2 _ _ _;subst bR;refine aF.au fun F2 bR=>?_)|(show F2 _ _ _;subst bR)|(show F _ _ _;subst hF;refine aF.au fun F hF=>?_)|(show F _ _ _;subst hF)|refine ae U rfl ?_)
      all_goals (try conv=>whnf)
      exact ⟨⟨a+t.1.text.length,out++[y],.slice (some A2) (out.length+1) m2⟩,[0,1],⟨⟨by show a+_<=_;omega,by show jr (s.drop (a+t.1.text.length)) _ _=TT;rw[hT,<-List.drop_drop,<-hm,hy],.inr ⟨A2,m2,by simp⟩,by show (out++[_]).length<=a+_;simp only[List.length_append,List.length_cons,List.length_nil] at h5 ⊢;omega⟩,by show s.length - (a+_)<s.length - b;omega⟩,rfl,⟨rr,rr,rr,rr,tU⟩,⟨⟨_,rfl,kp⟩,⟨_,rfl,rfl⟩,tU⟩⟩
    ·have hT:=B4 l m (iT s b) out (by rw[hm,hd]) aN he;rw[h3,hq] at hT;subst hT;obtain ⟨t,ht⟩:∃t,t=b9 m:=⟨_,rfl⟩;rw[<-ht] at hn he ⊢;clear hd hq ht Df GI;refine aF.au fun F2 bR=>?_;repeat' ((conv=>whnf);first|with_reducible apply aa<;>intro _|(exfalso;rename_i hx;have:=of_decide_eq_false hx;exact this (Int.ofNat_lt.2 ah))|(refine hn.use [] rfl rfl trivial ?_;rintro _ _ ⟨t0,rfl,_⟩;refine ⟨[],?_⟩)|refine cx ?_|(show F2 _ _ _;subst bR;refine aF.au fun F2 bR=>?_)|(show F2 _ _ _;subst bR)|(show F _ _ _;subst hF;refine aF.au fun F hF=>?_)|(show F _ _ _;subst hF)|refine ae U rfl ?_)
     all_goals (try conv=>whnf)
     all_goals first
      | exact .inr ⟨he,_,.inr ⟨rfl,_,_,_,_,rfl⟩⟩
      | (exfalso;rename_i hx;have:=hx;simp at this;exact he this)
end Go.Proofs.YtmbdghclhpboaaaGreat
namespace Go.Proofs.YtmbdghclhpboaaaGreat
open Ev Go.RowKit
abbrev VJ:TypeId:=170
def kg(A:Option Addr)(m:Nat)(e:Nat×Nat)(p:Pr):List AV:=[.lit (.slice A p.l.length m),iA e.1,iA e.2,iA (qT p.bad).1,iA (qT p.bad).2.1,iA (qT p.bad).2.2]
structure jt(R:aH)(A:Option Addr)(m:Nat)(L:List Tk):Prop where
 r:gM R A L
 m:L.length<=m
def FI(R:aH)(e:Nat×Nat)(p:Pr)(f:List AV->AV):AV->List af->Prop:=fun v H'=>∃A m,jt R A m p.l/\v=f (kg A m e p)/\∃G,H'=.res R::G
theorem ag.rr{S:List Nat}{g:Nat}{args0 args:List AV}{H0 H:List af}{R:aH}{e:Nat×Nat}{p:Pr}{f:List AV->AV}{K:AV->List af->Prop}(c:nJ Tryz.prog g args0 H0 (FI R e p f))(ρ:List Nat)(gR:args=AV.ff (ef ρ) args0)(lp:(eg ρ&&Nat.ble H0.length aU&&ρ.all (fun i=>!n8 S i))=true)(pa:nL (ef ρ) H ρ H0)
  (hK:∀A m,jt R A m p.l->∀G,D6 ρ [] H (.res R::G) (f (kg A m e p)) K):ag Tryz.prog S g args H K:=c.use ρ gR lp pa (by
 rintro _ _ ⟨A,m,h,rfl,G,rfl⟩;exact ⟨[],hK A m h G⟩)
theorem jt.tail{R:aH}{A:Option Addr}{l:List Tk}{m:Nat}(h:jt R A m l)(aN:l≠[]):jt R (Ag A m 1 5) (m - 1) l.tail:=by
 obtain ⟨⟨hl,hn⟩,hm⟩:=h;refine ⟨⟨fun ht=>?_,by simp;omega⟩,by simp;omega⟩;obtain ⟨a,rfl,ha⟩:=hl aN;have h2:0<l.tail.length:=List.length_pos_iff.2 ht;have N3:m≠1:=by simp at h2;omega
 refine ⟨a.add (1 * 5),by unfold Ag;rw[if_neg N3];rfl,fun w S hw=>?_⟩;obtain ⟨b,off,rfl,nT⟩:=ha w S hw;refine ⟨b,off+5,by rw[Addr.add_mid],fun j u hj=>?_⟩;obtain ⟨t,r,rfl⟩:∃t r,l=t::r:=by
  cases l with
  | nil=>exact absurd rfl aN
  | cons t r=>exact ⟨t,r,rfl⟩
 have:=nT (5+j) u (by
  rw[List.flatMap_cons,List.getElem?_append_right (by simp[oH])];simpa [oH] using hj)
 rwa [Nat.add_assoc]
section
variable{R:aH}{A:Option Addr}{m:Nat}{e:Nat×Nat}{p:Pr}
theorem fM{s:List UInt8}(hT:jt R A m p.l):CP [] 170 [.agg (kg A m e p),.lit (cU s)] [.res R] (kl (bA (p.is s)) [.res R]):=by
 obtain ⟨hT,hm⟩:=hT;obtain ⟨l,bad⟩:=p;rcases bad with _|b;rcases l with _|⟨t,l⟩
 ·refine ae U rfl ?_;repeat' ((conv=>whnf);first|with_reducible apply aa<;>intro _  | refine ae U rfl ?_)
  all_goals (try conv=>whnf)
  all_goals exact ⟨rfl,_,rfl⟩
 ·obtain ⟨a,rfl,_⟩:=hT.rd.at (k:=0) (by simp);have ah:0<(t::l).length:=Nat.zero_lt_succ _;have LO:=hT.one (i:=0) (j:=1) (u:=cU t.text) DW ah rfl;rw[show (⟨t::l,none⟩:Pr).is s=decide (t.text=s) from rfl];refine ae U rfl ?_;repeat' ((conv=>whnf);first|with_reducible apply aa<;>intro _|refine ai.EW (k:=0) U rfl rfl rfl rfl rfl rfl ah ?_|refine ai.jW U rfl rfl rfl rfl rfl rfl ?_|refine ai.aR (i:=0) (v:=.lit (cU t.text)) rfl LO rfl rfl ?_|refine ae U rfl ?_)
  all_goals (try conv=>whnf)
  all_goals first
   | exact ⟨rfl,_,rfl⟩
   | (exfalso;rename_i hx;have:=of_decide_eq_false hx;exact this (Int.ofNat_lt.2 ah))
   | (rename_i hx;exact ⟨congrArg bA (oz.symm.trans hx).symm,_,rfl⟩)
 ·refine ae U rfl ?_;repeat' ((conv=>whnf);first|with_reducible apply aa<;>intro _  | refine ae U rfl ?_)
  all_goals (try conv=>whnf)
  all_goals exact ⟨rfl,_,rfl⟩
theorem lE(hT:jt R A m p.l):CP [] 168 [.agg (kg A m e p)] [.res R] (kl (.agg [iA (p.place e).1,iA (p.place e).2]) [.res R]):=by
 obtain ⟨hT,hm⟩:=hT;obtain ⟨l,bad⟩:=p;rcases l with _|⟨t,l⟩
 ·refine ae U rfl ?_;repeat' ((conv=>whnf);first|with_reducible apply aa<;>intro _  | refine ae U rfl ?_)
  all_goals (try conv=>whnf)
  all_goals exact ⟨rfl,_,rfl⟩
 ·obtain ⟨a,rfl,_⟩:=hT.rd.at (k:=0) (by simp);have ah:0<(t::l).length:=Nat.zero_lt_succ _;refine ae U rfl ?_;repeat' ((conv=>whnf);first|with_reducible apply aa<;>intro _|refine ai.EW (k:=0) U rfl rfl rfl rfl rfl rfl ah ?_|refine ai.jW U rfl rfl rfl rfl rfl rfl ?_|refine ai.aR (i:=0) (v:=.agg [iA t.line,iA t.aS]) rfl (hT.pos (i:=0) ah) rfl rfl ?_|refine ae U rfl ?_)
  all_goals (try conv=>whnf)
  all_goals first
   | exact ⟨rfl,_,rfl⟩
   | (exfalso;rename_i hx;have:=of_decide_eq_false hx;exact this (Int.ofNat_lt.2 ah))
theorem Ff(hT:jt R A m p.l):CP [] 171 [.agg (kg A m e p)] [.res R] (FI R e (p.aV e) .agg):=by
 refine ag.mono (K:=kl (.agg (kg A m e (p.aV e))) [.res R]) ?_ (by
  rintro _ _ ⟨rfl,G,rfl⟩;refine ⟨A,m,?_,rfl,_,rfl⟩;rw[tH];exact hT)
 obtain ⟨hT,hm⟩:=hT;obtain ⟨l,bad⟩:=p;rcases bad with _|b;rcases l with _|⟨t,l⟩
 ·refine ae U rfl ?_;repeat' ((conv=>whnf);first|with_reducible apply aa<;>intro _  | refine ae U rfl ?_)
  all_goals (try conv=>whnf)
  all_goals exact ⟨rfl,_,rfl⟩
 ·obtain ⟨a,rfl,_⟩:=hT.rd.at (k:=0) (by simp);have ah:0<(t::l).length:=Nat.zero_lt_succ _;refine ae U rfl ?_;repeat' ((conv=>whnf);first|with_reducible apply aa<;>intro _|refine ai.EW (k:=0) U rfl rfl rfl rfl rfl rfl ah ?_|refine ai.jW U rfl rfl rfl rfl rfl rfl ?_|refine ai.aR (i:=0) (v:=.agg [iA t.line,iA t.aS]) rfl (hT.pos (i:=0) ah) rfl rfl ?_|refine ae U rfl ?_)
  all_goals (try conv=>whnf)
  all_goals first
   | exact ⟨rfl,_,rfl⟩
   | (exfalso;rename_i hx;have:=of_decide_eq_false hx;exact this (Int.ofNat_lt.2 ah))
 ·refine ae U rfl ?_;repeat' ((conv=>whnf);first|with_reducible apply aa<;>intro _  | refine ae U rfl ?_)
  all_goals (try conv=>whnf)
  all_goals exact ⟨rfl,_,rfl⟩
theorem xU(hT:jt R A m p.l)(aN:p.l≠[]):CP [] 172 [.agg (kg A m e p)] [.res R] (FI R e p.on .agg):=by
 have ah:1<=p.l.length:=List.length_pos_iff.2 aN;refine ae U rfl ?_;repeat' ((conv=>whnf);first|with_reducible apply aa<;>intro _|refine ai.XZ (j:=1) U rfl rfl rfl rfl rfl ah ?_|refine ae U rfl ?_)
 all_goals (try conv=>whnf)
 refine ⟨_,_,hT.tail aN,?_,_,rfl⟩;unfold kg;rw[show p.on.l.length=p.l.length - 1 by unfold Pr.on;simp];rfl
theorem kD{s:List UInt8}(hT:jt R A m p.l):CP [] 174 [.agg (kg A m e p),.lit (cU s)] [.res R] (FI R e (p.want e s) .agg):=by
 have h1:=fM (e:=e) (s:=s) hT;unfold Pr.want;cases hb:p.is s
 all_goals rw[hb] at h1
 ·have h2:=Ff (e:=e) hT;refine ae U rfl ?_;repeat' ((conv=>whnf);first|with_reducible apply aa<;>intro _|refine h1.g [0] rfl rfl ⟨ko,tU⟩ fun G=>?_|refine ag.rr h2 [0] rfl rfl ⟨ko,tU⟩ fun A' m' fT G=>?_|refine ae U rfl ?_)
  all_goals (try conv=>whnf)
  all_goals exact ⟨_,_,fT,rfl,_,rfl⟩
 ·have h2:=xU (e:=e) hT (jf hb);refine ae U rfl ?_;repeat' ((conv=>whnf);first|with_reducible apply aa<;>intro _|refine h1.g [0] rfl rfl ⟨ko,tU⟩ fun G=>?_|refine ag.rr h2 [0] rfl rfl ⟨ko,tU⟩ fun A' m' fT G=>?_|refine ae U rfl ?_)
  all_goals (try conv=>whnf)
  all_goals exact ⟨_,_,fT,rfl,_,rfl⟩
end
section
variable{R:aH}{A:Option Addr}{m:Nat}{e:Nat×Nat}{p:Pr}
theorem vm{k:Nat}(hT:jt R A m p.l):CP [] 173 [.agg (kg A m e p),iA k] [.res R] (FI R e (p.take e k).2 fun a=>.tuple [.agg a,.agg (D1 (p.take e k).1)]):=by
 have hw:=Ff (e:=e) hT;obtain ⟨l,bad⟩:=p;rcases bad with _|b;rcases l with _|⟨t,l⟩
 ·refine ae U rfl ?_;repeat' ((conv=>whnf);first|with_reducible apply aa<;>intro _|refine aJ.drawn U rfl rfl ?_|with_reducible refine And.intro (aG.mk ⟨_,rfl,rfl⟩) ?_|refine ag.rr hw [0] rfl rfl ⟨ko,tU⟩ fun A' m' fT G=>?_|refine ae U rfl ?_)
  all_goals (try conv=>whnf)
  all_goals exact ⟨_,_,fT,rfl,_,rfl⟩
 ·obtain ⟨a,rfl,bq⟩:=hT.r.rd.at (k:=0) (by simp);have ah:0<(t::l).length:=Nat.zero_lt_succ _;have LO:=hT.r.one (i:=0) (j:=0) (u:=.int .i64 (t.kind:Int)) xD ah rfl;have bq:=fun w S hw=>bq w S hw 0 ah;have ho:=xU (e:=e) hT (by simp);by_cases hk:t.kind=k
  ·have e1:(⟨t::l,none⟩:Pr).take e k=(t,(⟨t::l,none⟩:Pr).on):=by unfold Pr.take Pr.kind;simp[hk]
   rw[e1];refine ae U rfl ?_;repeat' ((conv=>whnf);first|with_reducible apply aa<;>intro _|refine aJ.drawn U rfl rfl ?_|with_reducible refine And.intro (aG.mk ⟨_,rfl,rfl⟩) ?_|(exfalso;rename_i hx;have:=of_decide_eq_false hx;exact this (Int.ofNat_lt.2 ah))|(exfalso;rename_i hx;exact ne_of_beq_false hx (congrArg Int.ofNat hk))|refine ai.EW (k:=0) U rfl rfl rfl rfl rfl rfl ah ?_|refine ai.jW U rfl rfl rfl rfl rfl rfl ?_|refine ai.aR (i:=0) (v:=iA t.kind) rfl LO rfl rfl ?_|refine ai.aR (i:=0) (v:=.agg (D1 t)) rfl bq rfl rfl ?_|refine jJ.mk ?_ ?_|refine ag.rr ho [0] rfl rfl ⟨ko,tU⟩ fun A' m' fT G=>?_|refine ae U rfl ?_)
   all_goals (try conv=>whnf)
   all_goals first
    | exact ⟨_,_,fT,rfl,_,rfl⟩
    | trace_state
  ·have e1:(⟨t::l,none⟩:Pr).take e k=(Tk.none,(⟨t::l,none⟩:Pr).aV e):=by unfold Pr.take Pr.kind;simp[hk]
   rw[e1];refine ae U rfl ?_;repeat' ((conv=>whnf);first|with_reducible apply aa<;>intro _|refine aJ.drawn U rfl rfl ?_|with_reducible refine And.intro (aG.mk ⟨_,rfl,rfl⟩) ?_|(exfalso;rename_i hx;have:=of_decide_eq_false hx;exact this (Int.ofNat_lt.2 ah))|(exfalso;rename_i hx;exact hk (Int.ofNat.inj (eq_of_beq hx)))|refine ai.EW (k:=0) U rfl rfl rfl rfl rfl rfl ah ?_|refine ai.jW U rfl rfl rfl rfl rfl rfl ?_|refine ai.aR (i:=0) (v:=iA t.kind) rfl LO rfl rfl ?_|refine ag.rr hw [0] rfl rfl ⟨ko,tU⟩ fun A' m' fT G=>?_|refine ae U rfl ?_)
   all_goals (try conv=>whnf)
   all_goals first
    | exact ⟨_,_,fT,rfl,_,rfl⟩
    | trace_state
 ·refine ae U rfl ?_;repeat' ((conv=>whnf);first|with_reducible apply aa<;>intro _|refine aJ.drawn U rfl rfl ?_|with_reducible refine And.intro (aG.mk ⟨_,rfl,rfl⟩) ?_|refine ag.rr hw [0] rfl rfl ⟨ko,tU⟩ fun A' m' fT G=>?_|refine ae U rfl ?_)
  all_goals (try conv=>whnf)
  all_goals exact ⟨_,_,fT,rfl,_,rfl⟩
def I7(p:Pr):Bool:=match p.l with
 | t::_=>decide (t.kind=1)
 | []=>false
theorem DY{p:Pr}(h:p.bad≠none)(e:Nat×Nat)(k:Nat):p.take e k=(Tk.none,p):=by
 unfold Pr.take;rw[sZ h,if_neg (by simp),uD h]
theorem Su(e:Nat×Nat)(p:Pr):ij e p=if p.is ov then (⟨true,[],0,(p.place e).1,(p.place e).2⟩,p.on) else if I7 p then (⟨false,(p.take e 1).1.text,0,(p.place e).1,(p.place e).2⟩,(p.take e 1).2) else (⟨false,[],(p.take e 3).1.n,(p.place e).1,(p.place e).2⟩,(p.take e 3).2):=by
 unfold ij gl fy;simp only[];by_cases h:p.bad=none
 ·have:p.kind 1=I7 p:=by unfold Pr.kind I7;rw[h];rfl
  rw[this]
 ·rw[sZ h,DY h,DY h];cases p.is ov<;>cases I7 p<;>rfl
theorem Qy{p:Pr}(ah:0<p.l.length):I7 p=decide (p.l[0].kind=1):=by
 obtain ⟨l,bad⟩:=p;cases l with
 | nil=>simp at ah
 | cons t l=>rfl
theorem Nz{p:Pr}(h:¬0<p.l.length):I7 p=false:=by
 obtain ⟨l,bad⟩:=p;cases l with
 | nil=>rfl
 | cons t l=>simp at h
theorem JX(hT:jt R A m p.l):CP [] 176 [.agg (kg A m e p),.lit (cU ov),bA true] [.res R] (FI R e (ij e p).2 fun a=>.tuple [.agg a,.agg (wA (ij e p).1)]):=by
 have h1:=lE (e:=e) hT;have h2:=fM (e:=e) (s:=ov) hT;have h3:=vm (e:=e) (k:=1) hT;have h4:=vm (e:=e) (k:=3) hT;have h5:=fun hb=>xU (e:=e) hT (jf (s:=ov) hb);rw[Su];have QL:=@Qy p;have v9:=@Nz p;obtain ⟨y,hy⟩:∃y,y=p.place e:=⟨_,rfl⟩;obtain ⟨a,ha⟩:∃a,a=p.take e 1:=⟨_,rfl⟩;obtain ⟨b,hb⟩:∃b,b=p.take e 3:=⟨_,rfl⟩;obtain ⟨x,hx⟩:∃x,x=p.is ov:=⟨_,rfl⟩;obtain ⟨f,hf⟩:∃f,f=I7 p:=⟨_,rfl⟩;rw[<-hy] at h1 ⊢;rw[<-ha] at h3 ⊢;rw[<-hb] at h4 ⊢;rw[<-hx] at h2 h5 ⊢;rw[<-hf] at QL v9 ⊢;clear hx hf hy ha hb;by_cases ah:0<p.l.length
 ·obtain ⟨a0,rfl,_⟩:=hT.r.rd.at ah;have LO:=hT.r.one (i:=0) (j:=0) (u:=.int .i64 (p.l[0].kind:Int)) xD ah rfl;have QL:=QL ah;have hE:((p.l[0].kind:Int)==1)=f:=by rw[QL,Bool.eq_iff_iff,beq_iff_eq,decide_eq_true_iff];omega
  cases x<;>cases f
  all_goals
   refine ae U rfl ?_
   repeat' ((conv=>whnf);first|with_reducible apply aa<;>intro _|refine aJ.drawn U rfl rfl ?_|with_reducible refine And.intro (aG.mk ⟨_,rfl,rfl⟩) ?_|(exfalso;rename_i hx;have:=of_decide_eq_false hx;exact this (Int.ofNat_lt.2 ah))|(exfalso;rename_i hx;have hx:=hE.symm.trans hx;cases hx;done)|refine h1.g [0] rfl rfl ⟨ko,tU⟩ fun G=>?_|refine h2.g [0] rfl rfl ⟨ko,tU⟩ fun G=>?_|refine ag.rr (h5 rfl) [0] rfl rfl ⟨ko,tU⟩ fun A' m' fT G=>?_|refine ai.EW (k:=0) U rfl rfl rfl rfl rfl rfl ah ?_|refine ai.jW U rfl rfl rfl rfl rfl rfl ?_|refine ai.aR (i:=0) (v:=iA p.l[0].kind) rfl LO rfl rfl ?_|refine ag.rr h3 [0] rfl rfl ⟨ko,tU⟩ fun A' m' fT G=>?_|refine ag.rr h4 [0] rfl rfl ⟨ko,tU⟩ fun A' m' fT G=>?_|refine ae U rfl ?_)
   all_goals (try conv=>whnf)
   all_goals first
    | exact ⟨_,_,fT,rfl,_,rfl⟩
    | trace_state
 ·have v9:=v9 ah;subst v9;cases x
  all_goals
   refine ae U rfl ?_
   repeat' ((conv=>whnf);first|with_reducible apply aa<;>intro _|refine aJ.drawn U rfl rfl ?_|with_reducible refine And.intro (aG.mk ⟨_,rfl,rfl⟩) ?_|(exfalso;rename_i hx;have:=of_decide_eq_true hx;exact ah (Int.ofNat_lt.1 this))|refine h1.g [0] rfl rfl ⟨ko,tU⟩ fun G=>?_|refine h2.g [0] rfl rfl ⟨ko,tU⟩ fun G=>?_|refine ag.rr (h5 rfl) [0] rfl rfl ⟨ko,tU⟩ fun A' m' fT G=>?_|refine ag.rr h4 [0] rfl rfl ⟨ko,tU⟩ fun A' m' fT G=>?_|refine ae U rfl ?_)
   all_goals (try conv=>whnf)
   all_goals exact ⟨_,_,fT,rfl,_,rfl⟩
end
section
variable{R:aH}{A:Option Addr}{m:Nat}{e:Nat×Nat}{p:Pr}
theorem VC(hT:jt R A m p.l):CP [] 176 [.agg (kg A m e p),.lit (cU BU),bA false] [.res R] (FI R e (fZ e p).2 fun a=>.tuple [.agg a,.agg (wA (fZ e p).1)]):=by
 have h1:=lE (e:=e) hT;have h2:=fM (e:=e) (s:=BU) hT;have h3:=vm (e:=e) (k:=1) hT;have h5:=fun hb=>xU (e:=e) hT (jf (s:=BU) hb);unfold fZ gl;obtain ⟨y,hy⟩:∃y,y=p.place e:=⟨_,rfl⟩;obtain ⟨a,ha⟩:∃a,a=p.take e 1:=⟨_,rfl⟩;obtain ⟨x,hx⟩:∃x,x=p.is BU:=⟨_,rfl⟩;rw[<-hy] at h1 ⊢;rw[<-ha] at h3 ⊢;rw[<-hx] at h2 h5 ⊢;clear hx hy ha;cases x
 all_goals
  refine ae U rfl ?_
  repeat' ((conv=>whnf);first|with_reducible apply aa<;>intro _|refine aJ.drawn U rfl rfl ?_|with_reducible refine And.intro (aG.mk ⟨_,rfl,rfl⟩) ?_|refine h1.g [0] rfl rfl ⟨ko,tU⟩ fun G=>?_|refine h2.g [0] rfl rfl ⟨ko,tU⟩ fun G=>?_|refine ag.rr (h5 rfl) [0] rfl rfl ⟨ko,tU⟩ fun A' m' fT G=>?_|refine ag.rr h3 [0] rfl rfl ⟨ko,tU⟩ fun A' m' fT G=>?_|refine ae U rfl ?_)
  all_goals (try conv=>whnf)
  all_goals exact ⟨_,_,fT,rfl,_,rfl⟩
theorem Py{d:Dc}(hT:jt R A m p.l)(hd:d.lo=0):CP [] 177 [.agg (kg A m e p),.agg (dA d aO)] [.res R] (FI R e (de e d p).2 fun a=>.tuple [.agg a,.agg (dA (de e d p).1 aO)]):=by
 have H1:=@fun A m h=>@kD R A m e p bQ h;unfold de eh;simp only[];obtain ⟨q0,hq⟩:∃q,q=p.want e bQ:=⟨_,rfl⟩;rw[<-hq] at H1 ⊢;clear hq;have H2:=@fun A m h=>@JX R A m e q0 h;obtain ⟨w,hq⟩:∃q,q=ij e q0:=⟨_,rfl⟩;rw[<-hq] at H2 ⊢;clear hq;have H3:=@fun A m h=>@kD R A m e w.2 qO h;obtain ⟨q1,hq⟩:∃q,q=w.2.want e qO:=⟨_,rfl⟩;rw[<-hq] at H3 ⊢;clear hq;have H4:=@fun A m h=>@fM R A m e q1 ov h;have H5:=@fun A m (h:jt R A m q1.l) hb=>@xU R A m e q1 h (jf (s:=ov) hb);have H6:=@fun A m h=>@vm R A m e q1 3 h;obtain ⟨a,ha⟩:∃q,q=q1.take e 3:=⟨_,rfl⟩;rw[<-ha] at H6;have H7:=@fun A m h=>@fM R A m e a.2 x7 h;have H8:=@fun A m (h:jt R A m a.2.l) hb=>@xU R A m e a.2 h (jf (s:=x7) hb);have H9:=@fun A m h=>@vm R A m e a.2.on 3 h;obtain ⟨b,hb⟩:∃q,q=a.2.on.take e 3:=⟨_,rfl⟩;rw[<-hb] at H9;obtain ⟨t,ht⟩:∃t,fY e q1=t:=⟨_,rfl⟩;rw[ht];unfold fY fy at ht;simp only[] at ht;rw[<-ha] at ht;rw[<-hb] at ht;have wo:=ht.symm;clear ht ha hb;obtain ⟨x,hx⟩:∃x,x=q1.is ov:=⟨_,rfl⟩;obtain ⟨y,hy⟩:∃y,y=a.2.is x7:=⟨_,rfl⟩;rw[<-hx] at H4 H5 wo;rw[<-hy] at H7 H8 wo;clear hx hy;have Tc:=@fun A m h=>@kD R A m e t.2.2 bK h;obtain ⟨q2,hq⟩:∃q,q=t.2.2.want e bK:=⟨_,rfl⟩;rw[<-hq] at Tc ⊢;clear hq;have Td:=@fun A m h=>@JX R A m e q2 h;obtain ⟨l,hq⟩:∃q,q=ij e q2:=⟨_,rfl⟩;rw[<-hq] at Td ⊢;clear hq;have Te:=@fun A m h=>@kD R A m e l.2 Fs h;obtain ⟨q3,hq⟩:∃q,q=l.2.want e Fs:=⟨_,rfl⟩;rw[<-hq] at Te ⊢;clear hq;have Tf:=@fun A m h=>@VC R A m e q3 h;obtain ⟨r,hq⟩:∃q,q=fZ e q3:=⟨_,rfl⟩;rw[<-hq] at Tf ⊢;clear hq;have Tg:=@fun A m h=>@kD R A m e r.2 sR h;obtain ⟨q4,hq⟩:∃q,q=r.2.want e sR:=⟨_,rfl⟩;rw[<-hq] at Tg ⊢;clear hq;have Th:=@fun A m h=>@vm R A m e q4 3 h;unfold fy;obtain ⟨z,hq⟩:∃q,q=q4.take e 3:=⟨_,rfl⟩;rw[<-hq] at Th ⊢;clear hq;cases x
 ·cases y
  all_goals
   simp only[Bool.false_eq_true,if_false,if_true] at wo
   subst wo
   refine ae U rfl ?_
   refine eP.of rfl rfl ?_
   refine aF.au fun F hF=>?_
   repeat' ((conv=>whnf);first|with_reducible apply aa<;>intro _|refine aJ.drawn U rfl rfl ?_|with_reducible refine And.intro (aG.mk ⟨_,rfl,rfl⟩) ?_|refine ag.rr (H1 _ _ hT) [0] rfl rfl ⟨ko,tU⟩ fun A1 m1 T1 G=>?_|refine ag.rr (H2 _ _ T1) [0] rfl rfl ⟨ko,tU⟩ fun A2 m2 T2 G=>?_|refine ag.rr (H3 _ _ T2) [0] rfl rfl ⟨ko,tU⟩ fun A3 m3 T3 G=>?_|refine (H4 _ _ T3).g [0] rfl rfl ⟨ko,tU⟩ fun G=>?_|refine ag.rr (H6 _ _ T3) [0] rfl rfl ⟨ko,tU⟩ fun A4 m4 T4 G=>?_|refine (H7 _ _ T4).g [0] rfl rfl ⟨ko,tU⟩ fun G=>?_|refine ag.rr (H8 _ _ T4 rfl) [0] rfl rfl ⟨ko,tU⟩ fun A5 m5 T5 G=>?_|refine ag.rr (H9 _ _ T5) [0] rfl rfl ⟨ko,tU⟩ fun A6 m6 T6 G=>?_|refine ag.rr (Tc _ _ (by assumption)) [0] rfl rfl ⟨ko,tU⟩ fun A7 m7 T7 G=>?_|refine ag.rr (Td _ _ T7) [0] rfl rfl ⟨ko,tU⟩ fun A8 m8 T8 G=>?_|refine ag.rr (Te _ _ T8) [0] rfl rfl ⟨ko,tU⟩ fun A9 m9 T9 G=>?_|refine ag.rr (Tf _ _ T9) [0] rfl rfl ⟨ko,tU⟩ fun B1 n1 U1 G=>?_|refine ag.rr (Tg _ _ U1) [0] rfl rfl ⟨ko,tU⟩ fun B2 n2 U2 G=>?_|refine ag.rr (Th _ _ U2) [0] rfl rfl ⟨ko,tU⟩ fun B3 n3 U3 G=>?_|(show F _ _ _;subst hF;refine aF.au fun F hF=>?_)|(show F _ _ _;subst hF)|refine ae U rfl ?_)
   all_goals (try conv=>whnf)
   all_goals exact ⟨_,_,U3,rfl,_,rfl⟩
 ·simp only[if_true] at wo;subst wo;refine ae U rfl ?_;refine eP.of rfl rfl ?_;refine aF.au fun F hF=>?_;repeat' ((conv=>whnf);first|with_reducible apply aa<;>intro _|refine aJ.drawn U rfl rfl ?_|with_reducible refine And.intro (aG.mk ⟨_,rfl,rfl⟩) ?_|refine ag.rr (H1 _ _ hT) [0] rfl rfl ⟨ko,tU⟩ fun A1 m1 T1 G=>?_|refine ag.rr (H2 _ _ T1) [0] rfl rfl ⟨ko,tU⟩ fun A2 m2 T2 G=>?_|refine ag.rr (H3 _ _ T2) [0] rfl rfl ⟨ko,tU⟩ fun A3 m3 T3 G=>?_|refine (H4 _ _ T3).g [0] rfl rfl ⟨ko,tU⟩ fun G=>?_|refine ag.rr (H5 _ _ T3 rfl) [0] rfl rfl ⟨ko,tU⟩ fun A4 m4 T4 G=>?_|refine ag.rr (H6 _ _ T3) [0] rfl rfl ⟨ko,tU⟩ fun A4 m4 T4 G=>?_|refine (H7 _ _ T4).g [0] rfl rfl ⟨ko,tU⟩ fun G=>?_|refine ag.rr (H8 _ _ T4 rfl) [0] rfl rfl ⟨ko,tU⟩ fun A5 m5 T5 G=>?_|refine ag.rr (H9 _ _ T5) [0] rfl rfl ⟨ko,tU⟩ fun A6 m6 T6 G=>?_|refine ag.rr (Tc _ _ (by assumption)) [0] rfl rfl ⟨ko,tU⟩ fun A7 m7 T7 G=>?_|refine ag.rr (Td _ _ T7) [0] rfl rfl ⟨ko,tU⟩ fun A8 m8 T8 G=>?_|refine ag.rr (Te _ _ T8) [0] rfl rfl ⟨ko,tU⟩ fun A9 m9 T9 G=>?_|refine ag.rr (Tf _ _ T9) [0] rfl rfl ⟨ko,tU⟩ fun B1 n1 U1 G=>?_|refine ag.rr (Tg _ _ U1) [0] rfl rfl ⟨ko,tU⟩ fun B2 n2 U2 G=>?_|refine ag.rr (Th _ _ U2) [0] rfl rfl ⟨ko,tU⟩ fun B3 n3 U3 G=>?_|(show F _ _ _;subst hF;refine aF.au fun F hF=>?_)|(show F _ _ _;subst hF)|refine ae U rfl ?_)
  all_goals (try conv=>whnf)
  rw[hd];all_goals exact ⟨_,_,U3,rfl,_,rfl⟩
end
structure Ys where
 A:Option Addr
 m:Nat
 q:Pr
 out:List Bx
 more:Bool
section
variable{R:aH}{A:Option Addr}{m:Nat}{e:Nat×Nat}{p:Pr}
theorem Pd(hT:jt R A m p.l):CP [] 175 [.agg (kg A m e p)] [.res R] (fun v H'=>∃A' m',jt R A' m' (bt e p).2.l/\∃n,n+1=(bt e p).1.length/\v=.tuple [.agg (kg A' m' e (bt e p).2),.slice 3 0 (n+1) (.grown 4)]/\∃G1 G2 G,H'=.res R::G1::G2::.row ((bt e p).1.flatMap gN) nA::G):=by
 obtain ⟨F,hF⟩:∃F,F=bt e p:=⟨_,rfl⟩;rw[<-hF];refine ae U rfl ?_;conv=>whnf
 refine aW U rfl (fun x:Ys=>[(1,.ptr 1 0),(2,.ptr 2 0),(4,zn 3 4 x.out.length),(5,bA x.more)]) (fun x=>[.res R,.cells (kg x.A x.m e x.q) VJ,.cells (kg none 0 (0,0) ⟨[],none⟩) VJ]++zp (x.out.flatMap gN) nA x.out.length)
  (fun x=>jt R x.A x.m x.q.l/\(x.more=true->x.out.length+x.q.l.length<=p.l.length)/\(x.more=true->F=fu e (gG e x.q).2.l.length (gG e x.q).2 (x.out++[(gG e x.q).1]))/\(x.more=false->F=(x.out,x.q)/\x.out≠[]))
  (fun x=>if x.more then (gG e x.q).2.l.length+1 else 0) ⟨A,m,p,[],true⟩ ⟨hT,fun _=>by simp,fun _=>?_,fun h=>(nomatch h)⟩ [0,1,2] ?_ ?_
 ·rw[hF];exact tq e _ _ _ _ (p9 e p) (Nat.le_refl _)
 ·exact ⟨rfl,⟨rr,rr,rr,rr,tU⟩,⟨ko,⟨_,rfl,rfl⟩,⟨_,rfl,rfl⟩,tU⟩⟩
 ·rintro ⟨A,m,q,out,more⟩ ⟨h1,h2,h3,h4⟩;simp only[] at h1 h2 h3 h4;cases more with
  | false=>
    obtain ⟨rfl,aN⟩:=h4 rfl;obtain ⟨n,hn⟩:∃n,out.length=n+1:=⟨out.length - 1,by have:=List.length_pos_iff.2 aN;omega⟩;simp only[hn];repeat' ((conv=>whnf);first|with_reducible apply aa<;>intro _|refine aJ.drawn U rfl rfl ?_|with_reducible refine And.intro (aG.mk ⟨_,rfl,rfl⟩) ?_  | refine ae U rfl ?_)
    all_goals (try conv=>whnf)
    exact ⟨A,m,h1,n,rfl,rfl,_,_,_,rfl⟩
  | true=>
    have h2:=h2 rfl;have h3:=h3 rfl;have H1:=@fun A m h=>@vm R A m e q 3 h;have hlen:=p9 e q;have LQ:(gG e q).2.l.length=((((q.take e 3).2.take e 3).2.take e 3).2.take e 3).2.l.length:=rfl;unfold gG fy at h3 hlen;simp only[] at h3 hlen;obtain ⟨a,hq⟩:∃a,a=q.take e 3:=⟨_,rfl⟩;rw[<-hq] at H1 h3 hlen LQ;clear hq;have H2:=@fun A m h=>@vm R A m e a.2 3 h;obtain ⟨b,hq⟩:∃b,b=a.2.take e 3:=⟨_,rfl⟩;rw[<-hq] at H2 h3 hlen LQ;clear hq;have H3:=@fun A m h=>@vm R A m e b.2 3 h;obtain ⟨c,hq⟩:∃c,c=b.2.take e 3:=⟨_,rfl⟩;rw[<-hq] at H3 h3 hlen LQ;clear hq;have H4:=@fun A m h=>@vm R A m e c.2 3 h;obtain ⟨d,hq⟩:∃d,d=c.2.take e 3:=⟨_,rfl⟩;rw[<-hq] at H4 h3 hlen LQ;clear hq;have H5:=@fun A m h=>@fM R A m e d.2 [43] h;have H6:=@fun A m (h:jt R A m d.2.l) hb=>@xU R A m e d.2 h (jf (s:=[43]) hb);have zb:d.2.on.l.length=d.2.l.length - 1:=by unfold Pr.on;simp
    have nV:=fun hb=>List.length_pos_iff.2 (@jf d.2 [43] hb);have tM:=@Be e d.2 (out++[(⟨a.1.n,b.1.n,c.1.n,d.1.n⟩:Bx)]);have LR:=fun hb=>Bf e (p:=d.2) (out:=out++[(⟨a.1.n,b.1.n,c.1.n,d.1.n⟩:Bx)]) hb d.2.l.length;obtain ⟨x,hx⟩:∃x,x=d.2.is [43]:=⟨_,rfl⟩;rw[<-hx] at H5 H6 tM LR nV;have rj:out.length<=1000001:=by have:=h1.r.len;have:=hT.r.len;omega
    clear hx;rcases out with _|⟨o,out⟩;all_goals cases x
    ·simp only[List.length_nil];repeat' ((conv=>whnf);first|with_reducible apply aa<;>intro _|refine aJ.drawn U rfl rfl ?_|with_reducible refine And.intro (aG.mk ⟨_,rfl,rfl⟩) ?_|refine bL.loop 5 (bL.step U rfl ?_)|refine bL.step U rfl ?_|refine aI.of (k:=0) rfl (by decide) ?_|refine aI.of (k:=1) rfl (by decide) ?_|refine aI.of (k:=2) rfl (by decide) ?_|refine aI.of (k:=3) rfl (by decide) ?_|refine ag.rr (H1 _ _ h1) [0] rfl rfl ⟨ko,tU⟩ fun A1 m1 T1 G=>?_|refine ag.rr (H2 _ _ T1) [0] rfl rfl ⟨ko,tU⟩ fun A2 m2 T2 G=>?_|refine ag.rr (H3 _ _ T2) [0] rfl rfl ⟨ko,tU⟩ fun A3 m3 T3 G=>?_|refine ag.rr (H4 _ _ T3) [0] rfl rfl ⟨ko,tU⟩ fun A4 m4 T4 G=>?_|refine (H5 _ _ T4).g [0] rfl rfl ⟨ko,tU⟩ fun G=>?_|refine ag.rr (H6 _ _ T4 rfl) [0] rfl rfl ⟨ko,tU⟩ fun A5 m5 T5 G=>?_|refine dP.nil mn rfl rfl rfl rfl rfl ?_|refine ae U rfl ?_)
     all_goals (try conv=>whnf)
     refine ⟨⟨A4,m4,d.2,([]:List Bx)++[(⟨a.1.n,b.1.n,c.1.n,d.1.n⟩:Bx)],false⟩,[0,1,2,9],⟨⟨T4,fun h=>(nomatch h),fun h=>(nomatch h),fun _=>⟨h3.trans (LR rfl),by simp⟩⟩,Nat.zero_lt_succ _⟩,rfl,⟨rr,rr,⟨rfl,by rw[List.length_append];rfl⟩,⟨rfl,rfl⟩,tU⟩,⟨ko,⟨_,rfl,rfl⟩,⟨_,rfl,rfl⟩,⟨_,rfl,?_⟩,tU⟩⟩;rfl
    ·simp only[List.length_nil];repeat' ((conv=>whnf);first|with_reducible apply aa<;>intro _|refine aJ.drawn U rfl rfl ?_|with_reducible refine And.intro (aG.mk ⟨_,rfl,rfl⟩) ?_|refine bL.loop 5 (bL.step U rfl ?_)|refine bL.step U rfl ?_|refine aI.of (k:=0) rfl (by decide) ?_|refine aI.of (k:=1) rfl (by decide) ?_|refine aI.of (k:=2) rfl (by decide) ?_|refine aI.of (k:=3) rfl (by decide) ?_|refine ag.rr (H1 _ _ h1) [0] rfl rfl ⟨ko,tU⟩ fun A1 m1 T1 G=>?_|refine ag.rr (H2 _ _ T1) [0] rfl rfl ⟨ko,tU⟩ fun A2 m2 T2 G=>?_|refine ag.rr (H3 _ _ T2) [0] rfl rfl ⟨ko,tU⟩ fun A3 m3 T3 G=>?_|refine ag.rr (H4 _ _ T3) [0] rfl rfl ⟨ko,tU⟩ fun A4 m4 T4 G=>?_|refine (H5 _ _ T4).g [0] rfl rfl ⟨ko,tU⟩ fun G=>?_|refine ag.rr (H6 _ _ T4 rfl) [0] rfl rfl ⟨ko,tU⟩ fun A5 m5 T5 G=>?_|refine dP.nil mn rfl rfl rfl rfl rfl ?_|refine ae U rfl ?_)
     all_goals (try conv=>whnf)
     refine ⟨⟨A5,m5,d.2.on,([]:List Bx)++[(⟨a.1.n,b.1.n,c.1.n,d.1.n⟩:Bx)],true⟩,[0,1,2,9],⟨⟨T5,fun _=>by show (([]:List Bx)++[(⟨a.1.n,b.1.n,c.1.n,d.1.n⟩:Bx)]).length+d.2.on.l.length<=_;have:=nV rfl;simp only[List.length_append,List.length_cons,List.length_nil] at h2 ⊢;omega,fun _=>h3.trans (tM rfl).1,fun h=>(nomatch h)⟩,by show _<(gG e q).2.l.length+1;rw[LQ];exact Nat.succ_lt_succ (tM rfl).2⟩,rfl,⟨rr,rr,⟨rfl,by rw[List.length_append];rfl⟩,⟨rfl,rfl⟩,tU⟩,⟨ko,⟨_,rfl,rfl⟩,⟨_,rfl,rfl⟩,⟨_,rfl,?_⟩,tU⟩⟩;rfl
    ·simp only[List.length_cons];repeat' ((conv=>whnf);first|with_reducible apply aa<;>intro _|refine aJ.drawn U rfl rfl ?_|with_reducible refine And.intro (aG.mk ⟨_,rfl,rfl⟩) ?_|refine bL.loop 5 (bL.step U rfl ?_)|refine bL.step U rfl ?_|refine aI.of (k:=0) rfl (by decide) ?_|refine aI.of (k:=1) rfl (by decide) ?_|refine aI.of (k:=2) rfl (by decide) ?_|refine aI.of (k:=3) rfl (by decide) ?_|refine ag.rr (H1 _ _ h1) [0] rfl rfl ⟨ko,tU⟩ fun A1 m1 T1 G=>?_|refine ag.rr (H2 _ _ T1) [0] rfl rfl ⟨ko,tU⟩ fun A2 m2 T2 G=>?_|refine ag.rr (H3 _ _ T2) [0] rfl rfl ⟨ko,tU⟩ fun A3 m3 T3 G=>?_|refine ag.rr (H4 _ _ T3) [0] rfl rfl ⟨ko,tU⟩ fun A4 m4 T4 G=>?_|refine (H5 _ _ T4).g [0] rfl rfl ⟨ko,tU⟩ fun G=>?_|refine ag.rr (H6 _ _ T4 rfl) [0] rfl rfl ⟨ko,tU⟩ fun A5 m5 T5 G=>?_|refine dP.own mn rfl rfl rfl rfl rfl rfl (by rw[eL po];rfl) (by simp at rj ⊢;omega) ?_|refine ae U rfl ?_)
     all_goals (try conv=>whnf)
     refine ⟨⟨A4,m4,d.2,(o::out)++[(⟨a.1.n,b.1.n,c.1.n,d.1.n⟩:Bx)],false⟩,[0,1,2,10],⟨⟨T4,fun h=>(nomatch h),fun h=>(nomatch h),fun _=>⟨h3.trans (LR rfl),by simp⟩⟩,Nat.zero_lt_succ _⟩,rfl,⟨rr,rr,⟨rfl,by rw[List.length_append];rfl⟩,⟨rfl,rfl⟩,tU⟩,⟨ko,⟨_,rfl,rfl⟩,⟨_,rfl,rfl⟩,⟨_,rfl,?_⟩,tU⟩⟩;rw[List.flatMap_append];rfl
    ·simp only[List.length_cons];repeat' ((conv=>whnf);first|with_reducible apply aa<;>intro _|refine aJ.drawn U rfl rfl ?_|with_reducible refine And.intro (aG.mk ⟨_,rfl,rfl⟩) ?_|refine bL.loop 5 (bL.step U rfl ?_)|refine bL.step U rfl ?_|refine aI.of (k:=0) rfl (by decide) ?_|refine aI.of (k:=1) rfl (by decide) ?_|refine aI.of (k:=2) rfl (by decide) ?_|refine aI.of (k:=3) rfl (by decide) ?_|refine ag.rr (H1 _ _ h1) [0] rfl rfl ⟨ko,tU⟩ fun A1 m1 T1 G=>?_|refine ag.rr (H2 _ _ T1) [0] rfl rfl ⟨ko,tU⟩ fun A2 m2 T2 G=>?_|refine ag.rr (H3 _ _ T2) [0] rfl rfl ⟨ko,tU⟩ fun A3 m3 T3 G=>?_|refine ag.rr (H4 _ _ T3) [0] rfl rfl ⟨ko,tU⟩ fun A4 m4 T4 G=>?_|refine (H5 _ _ T4).g [0] rfl rfl ⟨ko,tU⟩ fun G=>?_|refine ag.rr (H6 _ _ T4 rfl) [0] rfl rfl ⟨ko,tU⟩ fun A5 m5 T5 G=>?_|refine dP.own mn rfl rfl rfl rfl rfl rfl (by rw[eL po];rfl) (by simp at rj ⊢;omega) ?_|refine ae U rfl ?_)
     all_goals (try conv=>whnf)
     refine ⟨⟨A5,m5,d.2.on,(o::out)++[(⟨a.1.n,b.1.n,c.1.n,d.1.n⟩:Bx)],true⟩,[0,1,2,10],⟨⟨T5,fun _=>by show ((o::out)++[(⟨a.1.n,b.1.n,c.1.n,d.1.n⟩:Bx)]).length+d.2.on.l.length<=_;have:=nV rfl;simp only[List.length_append,List.length_cons,List.length_nil] at h2 ⊢;omega,fun _=>h3.trans (tM rfl).1,fun h=>(nomatch h)⟩,by show _<(gG e q).2.l.length+1;rw[LQ];exact Nat.succ_lt_succ (tM rfl).2⟩,rfl,⟨rr,rr,⟨rfl,by rw[List.length_append];rfl⟩,⟨rfl,rfl⟩,tU⟩,⟨ko,⟨_,rfl,rfl⟩,⟨_,rfl,rfl⟩,⟨_,rfl,?_⟩,tU⟩⟩;rw[List.flatMap_append];rfl
end
end Go.Proofs.YtmbdghclhpboaaaGreat
