/- Part of the proof: Ppr3 Rul3. Conditions: as each states. -/
import Derived.Test.YtmbdghclhpboaaaGreatPq30
set_option linter.all false
set_option maxRecDepth 100000
namespace Go.Proofs.YtmbdghclhpboaaaGreat
open Ev
section
variable{R:aC}{A:Option Addr}{m:Nat}{L:List Tk}{e:Nat×Nat}{p:Pr}
theorem Sf.named{d:Dc}(h:Sf L p)(e:Nat×Nat):Sf L (gf e d p).2:=((h.name e).want e [61]).num e
theorem Sf.region{d:Dc}(h:Sf L p)(e:Nat×Nat):Sf L (eT e d p).2:=((h.name e).want e [61]).boxes e
theorem Sf.EO{d:Dc}(h:Sf L p)(e:Nat×Nat):Sf L (dJ e d p).2:=((((((((h.Fz (d:=d) e).want e rN).St e).want e bU).Yv e).want e GJ).where e).want e ua).num e
def LO(pl eY:List (Value×List Bx))(v:Value)(l:List Bx):Prop:=(v=aD/\l=[]/\eY=pl)\/∃a k,a.spot=none/\v=.slice (some a) l.length k/\l≠[]/\eY=pl++[(v,l)]
def ld(R:aC)(A:Option Addr)(m:Nat)(L:List Tk)(e:Nat×Nat)(x:Dc)(q:Pr)(pl:List (Value×List Bx))(u:AV)(H':List ai):Prop:=∃v eY,u=.agg (dA x v)/\LO pl eY v x.boxes/\∃G,H'=dX A m L e q::.res R::.res (aF eY)::G
theorem Ua{pl:List (Value×List Bx)}(hT:iu R A L)(hs:Sf L p)(b0:p.is cd=true):CP [] 219 [.ptr 0 0] [dX A m L e p,.res R,.res (aF pl)] (ld R A m L e (br e p).1 (br e p).2 pl):=by
 obtain ⟨y,hy⟩:∃y,y=p.place e:=⟨_,rfl⟩;have hd:br e p=((gf e { Dc.zero with kind:=1,line:=y.1,aX:=y.2 } (p.on)).1,(gf e { Dc.zero with kind:=1,line:=y.1,aX:=y.2 } (p.on)).2.want e [59]):=by
  unfold br;rw[hy];simp only[b0,if_true,Bool.false_eq_true,if_false]
 rw[hd];have qq:=nk (m:=m) (e:=e) hT hs;rw[<-hy] at qq;have k0:=dU (m:=m) (e:=e) (s:=cd) hT hs;unfold Pr.fQ at k0;rw[b0] at k0;simp only[if_true] at k0;have c1:=MB (m:=m) (e:=e) (d:={ Dc.zero with kind:=1,line:=y.1,aX:=y.2 }) (v:=aD) hT hs.on;have c2:=l9 (m:=m) (e:=e) (s:=[59]) hT (hs.on.named (d:={ Dc.zero with kind:=1,line:=y.1,aX:=y.2 }) e);have hb:(gf e { Dc.zero with kind:=1,line:=y.1,aX:=y.2 } (p.on)).1.boxes=[]:=rfl;clear hd hs hy;obtain ⟨r,hr⟩:∃r,r=gf e { Dc.zero with kind:=1,line:=y.1,aX:=y.2 } (p.on):=⟨_,rfl⟩;rw[<-hr] at c1 c2 hb ⊢;clear hr;obtain ⟨p1,oh⟩:∃q,q=p.on:=⟨_,rfl⟩;rw[<-oh] at k0 c1;obtain ⟨q,hq⟩:∃q,q=r.2.want e [59]:=⟨_,rfl⟩;rw[<-hq] at c2;show CP [] _ _ _ (ld R A m L e r.1 (r.2.want e [59]) pl)
 rw[<-hq];clear hq oh;refine ag aa rfl ?_;refine eX.of rfl rfl ?_;refine aI.az fun F hF=>?_;repeat' ((conv=>whnf);first|with_reducible apply af<;>intro _|(show F _ _ _;subst hF;refine aI.az fun F hF=>?_)|(show F _ _ _;subst hF)|(refine qq.use [0,1] rfl rfl ⟨⟨_,rfl,rfl⟩,ko,tU⟩ ?_;rintro _ _ ⟨rfl,G,rfl⟩;refine ⟨[],?_⟩)|(refine k0.use [0,1] rfl rfl ⟨⟨_,rfl,rfl⟩,ko,tU⟩ ?_;rintro _ _ ⟨rfl,G,rfl⟩;refine ⟨[],?_⟩)|(refine c1.use [0,4,1] rfl rfl ⟨⟨_,rfl,rfl⟩,⟨_,rfl,rfl⟩,ko,tU⟩ ?_;rintro _ _ ⟨rfl,G,rfl⟩;refine ⟨[],?_⟩)|(refine c2.use [0,1] rfl rfl ⟨⟨_,rfl,rfl⟩,ko,tU⟩ ?_;rintro _ _ ⟨rfl,G,rfl⟩;refine ⟨[],?_⟩))
 all_goals (try conv=>whnf)
 exact ⟨aD,pl,rfl,.inl ⟨rfl,hb,rfl⟩,_,rfl⟩
theorem Ub{pl:List (Value×List Bx)}(hT:iu R A L)(hs:Sf L p)(b0:p.is cd=false)(b1:p.is bU=true):CP [] 219 [.ptr 0 0] [dX A m L e p,.res R,.res (aF pl)] (ld R A m L e (br e p).1 (br e p).2 pl):=by
 obtain ⟨y,hy⟩:∃y,y=p.place e:=⟨_,rfl⟩;have hd:br e p=((gf e { Dc.zero with kind:=2,line:=y.1,aX:=y.2 } (p.on)).1,(gf e { Dc.zero with kind:=2,line:=y.1,aX:=y.2 } (p.on)).2.want e [59]):=by
  unfold br;rw[hy];simp only[b0,b1,if_true,Bool.false_eq_true,if_false]
 rw[hd];have qq:=nk (m:=m) (e:=e) hT hs;rw[<-hy] at qq;have k0:=dU (m:=m) (e:=e) (s:=cd) hT hs;unfold Pr.fQ at k0;rw[b0] at k0;simp only[Bool.false_eq_true,if_false] at k0;have k1:=dU (m:=m) (e:=e) (s:=bU) hT hs;unfold Pr.fQ at k1;rw[b1] at k1;simp only[if_true] at k1;have c1:=MB (m:=m) (e:=e) (d:={ Dc.zero with kind:=2,line:=y.1,aX:=y.2 }) (v:=aD) hT hs.on;have c2:=l9 (m:=m) (e:=e) (s:=[59]) hT (hs.on.named (d:={ Dc.zero with kind:=2,line:=y.1,aX:=y.2 }) e);have hb:(gf e { Dc.zero with kind:=2,line:=y.1,aX:=y.2 } (p.on)).1.boxes=[]:=rfl;clear hd hs hy;obtain ⟨r,hr⟩:∃r,r=gf e { Dc.zero with kind:=2,line:=y.1,aX:=y.2 } (p.on):=⟨_,rfl⟩;rw[<-hr] at c1 c2 hb ⊢;clear hr;obtain ⟨p1,oh⟩:∃q,q=p.on:=⟨_,rfl⟩;rw[<-oh] at k1 c1;obtain ⟨q,hq⟩:∃q,q=r.2.want e [59]:=⟨_,rfl⟩;rw[<-hq] at c2;show CP [] _ _ _ (ld R A m L e r.1 (r.2.want e [59]) pl)
 rw[<-hq];clear hq oh;refine ag aa rfl ?_;refine eX.of rfl rfl ?_;refine aI.az fun F hF=>?_;repeat' ((conv=>whnf);first|with_reducible apply af<;>intro _|(show F _ _ _;subst hF;refine aI.az fun F hF=>?_)|(show F _ _ _;subst hF)|(refine qq.use [0,1] rfl rfl ⟨⟨_,rfl,rfl⟩,ko,tU⟩ ?_;rintro _ _ ⟨rfl,G,rfl⟩;refine ⟨[],?_⟩)|(refine k0.use [0,1] rfl rfl ⟨⟨_,rfl,rfl⟩,ko,tU⟩ ?_;rintro _ _ ⟨rfl,G,rfl⟩;refine ⟨[],?_⟩)|(refine k1.use [0,1] rfl rfl ⟨⟨_,rfl,rfl⟩,ko,tU⟩ ?_;rintro _ _ ⟨rfl,G,rfl⟩;refine ⟨[],?_⟩)|(refine c1.use [0,4,1] rfl rfl ⟨⟨_,rfl,rfl⟩,⟨_,rfl,rfl⟩,ko,tU⟩ ?_;rintro _ _ ⟨rfl,G,rfl⟩;refine ⟨[],?_⟩)|(refine c2.use [0,1] rfl rfl ⟨⟨_,rfl,rfl⟩,ko,tU⟩ ?_;rintro _ _ ⟨rfl,G,rfl⟩;refine ⟨[],?_⟩))
 all_goals (try conv=>whnf)
 exact ⟨aD,pl,rfl,.inl ⟨rfl,hb,rfl⟩,_,rfl⟩
theorem Uc{pl:List (Value×List Bx)}(hT:iu R A L)(hs:Sf L p)(b0:p.is cd=false)(b1:p.is bU=false)(b2:p.is cC=true):CP [] 219 [.ptr 0 0] [dX A m L e p,.res R,.res (aF pl)] (ld R A m L e (br e p).1 (br e p).2 pl):=by
 obtain ⟨y,hy⟩:∃y,y=p.place e:=⟨_,rfl⟩;have hd:br e p=((eT e { Dc.zero with kind:=3,line:=y.1,aX:=y.2 } (p.on)).1,(eT e { Dc.zero with kind:=3,line:=y.1,aX:=y.2 } (p.on)).2.want e [59]):=by
  unfold br;rw[hy];simp only[b0,b1,b2,if_true,Bool.false_eq_true,if_false]
 rw[hd];have qq:=nk (m:=m) (e:=e) hT hs;rw[<-hy] at qq;have k0:=dU (m:=m) (e:=e) (s:=cd) hT hs;unfold Pr.fQ at k0;rw[b0] at k0;simp only[Bool.false_eq_true,if_false] at k0;have k1:=dU (m:=m) (e:=e) (s:=bU) hT hs;unfold Pr.fQ at k1;rw[b1] at k1;simp only[Bool.false_eq_true,if_false] at k1;have k2:=dU (m:=m) (e:=e) (s:=cC) hT hs;unfold Pr.fQ at k2;rw[b2] at k2;simp only[if_true] at k2;have c1:=Rp (m:=m) (e:=e) (d:={ Dc.zero with kind:=3,line:=y.1,aX:=y.2 }) (v:=aD) (pl:=pl) hT hs.on;have c2:=l9 (m:=m) (e:=e) (s:=[59]) hT (hs.on.region (d:={ Dc.zero with kind:=3,line:=y.1,aX:=y.2 }) e);clear hd hs hy;obtain ⟨r,hr⟩:∃r,r=eT e { Dc.zero with kind:=3,line:=y.1,aX:=y.2 } (p.on):=⟨_,rfl⟩;rw[<-hr] at c1 c2 ⊢;clear hr;obtain ⟨p1,oh⟩:∃q,q=p.on:=⟨_,rfl⟩;rw[<-oh] at k2 c1;obtain ⟨q,hq⟩:∃q,q=r.2.want e [59]:=⟨_,rfl⟩;rw[<-hq] at c2;show CP [] _ _ _ (ld R A m L e r.1 (r.2.want e [59]) pl)
 rw[<-hq];clear hq oh;obtain ⟨x,q1⟩:=r;simp only[] at c1 c2 ⊢;refine ag aa rfl ?_;refine eX.of rfl rfl ?_;refine aI.az fun F hF=>?_;repeat' ((conv=>whnf);first|with_reducible apply af<;>intro _|(show F _ _ _;subst hF;refine aI.az fun F hF=>?_)|(show F _ _ _;subst hF)|(refine qq.use [0,1] rfl rfl ⟨⟨_,rfl,rfl⟩,ko,tU⟩ ?_;rintro _ _ ⟨rfl,G,rfl⟩;refine ⟨[],?_⟩)|(refine k0.use [0,1] rfl rfl ⟨⟨_,rfl,rfl⟩,ko,tU⟩ ?_;rintro _ _ ⟨rfl,G,rfl⟩;refine ⟨[],?_⟩)|(refine k1.use [0,1] rfl rfl ⟨⟨_,rfl,rfl⟩,ko,tU⟩ ?_;rintro _ _ ⟨rfl,G,rfl⟩;refine ⟨[],?_⟩)|(refine k2.use [0,1] rfl rfl ⟨⟨_,rfl,rfl⟩,ko,tU⟩ ?_;rintro _ _ ⟨rfl,G,rfl⟩;refine ⟨[],?_⟩)|(refine c1.use [0,4,1,2] rfl rfl ⟨⟨_,rfl,rfl⟩,⟨_,rfl,rfl⟩,ko,ko,tU⟩ ?_;rintro _ _ ⟨rfl,a,k,lK,aP,G,rfl⟩;refine ⟨[],?_⟩)|(refine c2.use [0,1] rfl rfl ⟨⟨_,rfl,rfl⟩,ko,tU⟩ ?_;rintro _ _ ⟨rfl,G,rfl⟩;refine ⟨[],?_⟩))
 all_goals (try conv=>whnf)
 exact ⟨_,_,rfl,.inr ⟨a,k,lK,rfl,aP,rfl⟩,_,rfl⟩
theorem Ud{pl:List (Value×List Bx)}(hT:iu R A L)(hs:Sf L p)(b0:p.is cd=false)(b1:p.is bU=false)(b2:p.is cC=false)(b3:p.is dH=true):CP [] 219 [.ptr 0 0] [dX A m L e p,.res R,.res (aF pl)] (ld R A m L e (br e p).1 (br e p).2 pl):=by
 obtain ⟨y,hy⟩:∃y,y=p.place e:=⟨_,rfl⟩;have hd:br e p=((dJ e { Dc.zero with kind:=4,line:=y.1,aX:=y.2 } (p.on)).1,(dJ e { Dc.zero with kind:=4,line:=y.1,aX:=y.2 } (p.on)).2.want e [59]):=by
  unfold br;rw[hy];simp only[b0,b1,b2,b3,if_true,Bool.false_eq_true,if_false]
 rw[hd];have qq:=nk (m:=m) (e:=e) hT hs;rw[<-hy] at qq;have k0:=dU (m:=m) (e:=e) (s:=cd) hT hs;unfold Pr.fQ at k0;rw[b0] at k0;simp only[Bool.false_eq_true,if_false] at k0;have k1:=dU (m:=m) (e:=e) (s:=bU) hT hs;unfold Pr.fQ at k1;rw[b1] at k1;simp only[Bool.false_eq_true,if_false] at k1;have k2:=dU (m:=m) (e:=e) (s:=cC) hT hs;unfold Pr.fQ at k2;rw[b2] at k2;simp only[Bool.false_eq_true,if_false] at k2;have k3:=dU (m:=m) (e:=e) (s:=dH) hT hs;unfold Pr.fQ at k3;rw[b3] at k3;simp only[if_true] at k3;have c1:=Lh (m:=m) (e:=e) (d:={ Dc.zero with kind:=4,line:=y.1,aX:=y.2 }) (v:=aD) hT hs.on;have c2:=l9 (m:=m) (e:=e) (s:=[59]) hT (hs.on.EO (d:={ Dc.zero with kind:=4,line:=y.1,aX:=y.2 }) e);have hb:(dJ e { Dc.zero with kind:=4,line:=y.1,aX:=y.2 } (p.on)).1.boxes=[]:=rfl;clear hd hs hy;obtain ⟨r,hr⟩:∃r,r=dJ e { Dc.zero with kind:=4,line:=y.1,aX:=y.2 } (p.on):=⟨_,rfl⟩;rw[<-hr] at c1 c2 hb ⊢;clear hr;obtain ⟨p1,oh⟩:∃q,q=p.on:=⟨_,rfl⟩;rw[<-oh] at k3 c1;obtain ⟨q,hq⟩:∃q,q=r.2.want e [59]:=⟨_,rfl⟩;rw[<-hq] at c2;show CP [] _ _ _ (ld R A m L e r.1 (r.2.want e [59]) pl)
 rw[<-hq];clear hq oh;refine ag aa rfl ?_;refine eX.of rfl rfl ?_;refine aI.az fun F hF=>?_;repeat' ((conv=>whnf);first|with_reducible apply af<;>intro _|(show F _ _ _;subst hF;refine aI.az fun F hF=>?_)|(show F _ _ _;subst hF)|(refine qq.use [0,1] rfl rfl ⟨⟨_,rfl,rfl⟩,ko,tU⟩ ?_;rintro _ _ ⟨rfl,G,rfl⟩;refine ⟨[],?_⟩)|(refine k0.use [0,1] rfl rfl ⟨⟨_,rfl,rfl⟩,ko,tU⟩ ?_;rintro _ _ ⟨rfl,G,rfl⟩;refine ⟨[],?_⟩)|(refine k1.use [0,1] rfl rfl ⟨⟨_,rfl,rfl⟩,ko,tU⟩ ?_;rintro _ _ ⟨rfl,G,rfl⟩;refine ⟨[],?_⟩)|(refine k2.use [0,1] rfl rfl ⟨⟨_,rfl,rfl⟩,ko,tU⟩ ?_;rintro _ _ ⟨rfl,G,rfl⟩;refine ⟨[],?_⟩)|(refine k3.use [0,1] rfl rfl ⟨⟨_,rfl,rfl⟩,ko,tU⟩ ?_;rintro _ _ ⟨rfl,G,rfl⟩;refine ⟨[],?_⟩)|(refine c1.use [0,4,1] rfl rfl ⟨⟨_,rfl,rfl⟩,⟨_,rfl,rfl⟩,ko,tU⟩ ?_;rintro _ _ ⟨rfl,G,rfl⟩;refine ⟨[],?_⟩)|(refine c2.use [0,1] rfl rfl ⟨⟨_,rfl,rfl⟩,ko,tU⟩ ?_;rintro _ _ ⟨rfl,G,rfl⟩;refine ⟨[],?_⟩))
 all_goals (try conv=>whnf)
 exact ⟨aD,pl,rfl,.inl ⟨rfl,hb,rfl⟩,_,rfl⟩
theorem Ue{pl:List (Value×List Bx)}(hT:iu R A L)(hs:Sf L p)(b0:p.is cd=false)(b1:p.is bU=false)(b2:p.is cC=false)(b3:p.is dH=false)(b4:p.is jn=true):CP [] 219 [.ptr 0 0] [dX A m L e p,.res R,.res (aF pl)] (ld R A m L e (br e p).1 (br e p).2 pl):=by
 obtain ⟨y,hy⟩:∃y,y=p.place e:=⟨_,rfl⟩;have hd:br e p=((dJ e { Dc.zero with kind:=5,line:=y.1,aX:=y.2 } (p.on)).1,(dJ e { Dc.zero with kind:=5,line:=y.1,aX:=y.2 } (p.on)).2.want e [59]):=by
  unfold br;rw[hy];simp only[b0,b1,b2,b3,b4,if_true,Bool.false_eq_true,if_false]
 rw[hd];have qq:=nk (m:=m) (e:=e) hT hs;rw[<-hy] at qq;have k0:=dU (m:=m) (e:=e) (s:=cd) hT hs;unfold Pr.fQ at k0;rw[b0] at k0;simp only[Bool.false_eq_true,if_false] at k0;have k1:=dU (m:=m) (e:=e) (s:=bU) hT hs;unfold Pr.fQ at k1;rw[b1] at k1;simp only[Bool.false_eq_true,if_false] at k1;have k2:=dU (m:=m) (e:=e) (s:=cC) hT hs;unfold Pr.fQ at k2;rw[b2] at k2;simp only[Bool.false_eq_true,if_false] at k2;have k3:=dU (m:=m) (e:=e) (s:=dH) hT hs;unfold Pr.fQ at k3;rw[b3] at k3;simp only[Bool.false_eq_true,if_false] at k3;have k4:=dU (m:=m) (e:=e) (s:=jn) hT hs;unfold Pr.fQ at k4;rw[b4] at k4;simp only[if_true] at k4;have c1:=Lh (m:=m) (e:=e) (d:={ Dc.zero with kind:=5,line:=y.1,aX:=y.2 }) (v:=aD) hT hs.on;have c2:=l9 (m:=m) (e:=e) (s:=[59]) hT (hs.on.EO (d:={ Dc.zero with kind:=5,line:=y.1,aX:=y.2 }) e);have hb:(dJ e { Dc.zero with kind:=5,line:=y.1,aX:=y.2 } (p.on)).1.boxes=[]:=rfl;clear hd hs hy;obtain ⟨r,hr⟩:∃r,r=dJ e { Dc.zero with kind:=5,line:=y.1,aX:=y.2 } (p.on):=⟨_,rfl⟩;rw[<-hr] at c1 c2 hb ⊢;clear hr;obtain ⟨p1,oh⟩:∃q,q=p.on:=⟨_,rfl⟩;rw[<-oh] at k4 c1;obtain ⟨q,hq⟩:∃q,q=r.2.want e [59]:=⟨_,rfl⟩;rw[<-hq] at c2;show CP [] _ _ _ (ld R A m L e r.1 (r.2.want e [59]) pl)
 rw[<-hq];clear hq oh;refine ag aa rfl ?_;refine eX.of rfl rfl ?_;refine aI.az fun F hF=>?_;repeat' ((conv=>whnf);first|with_reducible apply af<;>intro _|(show F _ _ _;subst hF;refine aI.az fun F hF=>?_)|(show F _ _ _;subst hF)|(refine qq.use [0,1] rfl rfl ⟨⟨_,rfl,rfl⟩,ko,tU⟩ ?_;rintro _ _ ⟨rfl,G,rfl⟩;refine ⟨[],?_⟩)|(refine k0.use [0,1] rfl rfl ⟨⟨_,rfl,rfl⟩,ko,tU⟩ ?_;rintro _ _ ⟨rfl,G,rfl⟩;refine ⟨[],?_⟩)|(refine k1.use [0,1] rfl rfl ⟨⟨_,rfl,rfl⟩,ko,tU⟩ ?_;rintro _ _ ⟨rfl,G,rfl⟩;refine ⟨[],?_⟩)|(refine k2.use [0,1] rfl rfl ⟨⟨_,rfl,rfl⟩,ko,tU⟩ ?_;rintro _ _ ⟨rfl,G,rfl⟩;refine ⟨[],?_⟩)|(refine k3.use [0,1] rfl rfl ⟨⟨_,rfl,rfl⟩,ko,tU⟩ ?_;rintro _ _ ⟨rfl,G,rfl⟩;refine ⟨[],?_⟩)|(refine k4.use [0,1] rfl rfl ⟨⟨_,rfl,rfl⟩,ko,tU⟩ ?_;rintro _ _ ⟨rfl,G,rfl⟩;refine ⟨[],?_⟩)|(refine c1.use [0,4,1] rfl rfl ⟨⟨_,rfl,rfl⟩,⟨_,rfl,rfl⟩,ko,tU⟩ ?_;rintro _ _ ⟨rfl,G,rfl⟩;refine ⟨[],?_⟩)|(refine c2.use [0,1] rfl rfl ⟨⟨_,rfl,rfl⟩,ko,tU⟩ ?_;rintro _ _ ⟨rfl,G,rfl⟩;refine ⟨[],?_⟩))
 all_goals (try conv=>whnf)
 exact ⟨aD,pl,rfl,.inl ⟨rfl,hb,rfl⟩,_,rfl⟩
theorem Uf{pl:List (Value×List Bx)}(hT:iu R A L)(hs:Sf L p)(b0:p.is cd=false)(b1:p.is bU=false)(b2:p.is cC=false)(b3:p.is dH=false)(b4:p.is jn=false)(b5:p.is fi=true):CP [] 219 [.ptr 0 0] [dX A m L e p,.res R,.res (aF pl)] (ld R A m L e (br e p).1 (br e p).2 pl):=by
 obtain ⟨y,hy⟩:∃y,y=p.place e:=⟨_,rfl⟩;have hd:br e p=((eS e { Dc.zero with kind:=6,line:=y.1,aX:=y.2 } (p.on)).1,(eS e { Dc.zero with kind:=6,line:=y.1,aX:=y.2 } (p.on)).2.want e [59]):=by
  unfold br;rw[hy];simp only[b0,b1,b2,b3,b4,b5,if_true,Bool.false_eq_true,if_false]
 rw[hd];have qq:=nk (m:=m) (e:=e) hT hs;rw[<-hy] at qq;have k0:=dU (m:=m) (e:=e) (s:=cd) hT hs;unfold Pr.fQ at k0;rw[b0] at k0;simp only[Bool.false_eq_true,if_false] at k0;have k1:=dU (m:=m) (e:=e) (s:=bU) hT hs;unfold Pr.fQ at k1;rw[b1] at k1;simp only[Bool.false_eq_true,if_false] at k1;have k2:=dU (m:=m) (e:=e) (s:=cC) hT hs;unfold Pr.fQ at k2;rw[b2] at k2;simp only[Bool.false_eq_true,if_false] at k2;have k3:=dU (m:=m) (e:=e) (s:=dH) hT hs;unfold Pr.fQ at k3;rw[b3] at k3;simp only[Bool.false_eq_true,if_false] at k3;have k4:=dU (m:=m) (e:=e) (s:=jn) hT hs;unfold Pr.fQ at k4;rw[b4] at k4;simp only[Bool.false_eq_true,if_false] at k4;have k5:=dU (m:=m) (e:=e) (s:=fi) hT hs;unfold Pr.fQ at k5;rw[b5] at k5;simp only[if_true] at k5;have c1:=MA (m:=m) (e:=e) (d:={ Dc.zero with kind:=6,line:=y.1,aX:=y.2 }) (v:=aD) hT hs.on;have c2:=l9 (m:=m) (e:=e) (s:=[59]) hT (hs.on.Fz (d:={ Dc.zero with kind:=6,line:=y.1,aX:=y.2 }) e);have hb:(eS e { Dc.zero with kind:=6,line:=y.1,aX:=y.2 } (p.on)).1.boxes=[]:=rfl;clear hd hs hy;obtain ⟨r,hr⟩:∃r,r=eS e { Dc.zero with kind:=6,line:=y.1,aX:=y.2 } (p.on):=⟨_,rfl⟩;rw[<-hr] at c1 c2 hb ⊢;clear hr;obtain ⟨p1,oh⟩:∃q,q=p.on:=⟨_,rfl⟩;rw[<-oh] at k5 c1;obtain ⟨q,hq⟩:∃q,q=r.2.want e [59]:=⟨_,rfl⟩;rw[<-hq] at c2;show CP [] _ _ _ (ld R A m L e r.1 (r.2.want e [59]) pl)
 rw[<-hq];clear hq oh;refine ag aa rfl ?_;refine eX.of rfl rfl ?_;refine aI.az fun F hF=>?_;repeat' ((conv=>whnf);first|with_reducible apply af<;>intro _|(show F _ _ _;subst hF;refine aI.az fun F hF=>?_)|(show F _ _ _;subst hF)|(refine qq.use [0,1] rfl rfl ⟨⟨_,rfl,rfl⟩,ko,tU⟩ ?_;rintro _ _ ⟨rfl,G,rfl⟩;refine ⟨[],?_⟩)|(refine k0.use [0,1] rfl rfl ⟨⟨_,rfl,rfl⟩,ko,tU⟩ ?_;rintro _ _ ⟨rfl,G,rfl⟩;refine ⟨[],?_⟩)|(refine k1.use [0,1] rfl rfl ⟨⟨_,rfl,rfl⟩,ko,tU⟩ ?_;rintro _ _ ⟨rfl,G,rfl⟩;refine ⟨[],?_⟩)|(refine k2.use [0,1] rfl rfl ⟨⟨_,rfl,rfl⟩,ko,tU⟩ ?_;rintro _ _ ⟨rfl,G,rfl⟩;refine ⟨[],?_⟩)|(refine k3.use [0,1] rfl rfl ⟨⟨_,rfl,rfl⟩,ko,tU⟩ ?_;rintro _ _ ⟨rfl,G,rfl⟩;refine ⟨[],?_⟩)|(refine k4.use [0,1] rfl rfl ⟨⟨_,rfl,rfl⟩,ko,tU⟩ ?_;rintro _ _ ⟨rfl,G,rfl⟩;refine ⟨[],?_⟩)|(refine k5.use [0,1] rfl rfl ⟨⟨_,rfl,rfl⟩,ko,tU⟩ ?_;rintro _ _ ⟨rfl,G,rfl⟩;refine ⟨[],?_⟩)|(refine c1.use [0,4,1] rfl rfl ⟨⟨_,rfl,rfl⟩,⟨_,rfl,rfl⟩,ko,tU⟩ ?_;rintro _ _ ⟨rfl,G,rfl⟩;refine ⟨[],?_⟩)|(refine c2.use [0,1] rfl rfl ⟨⟨_,rfl,rfl⟩,ko,tU⟩ ?_;rintro _ _ ⟨rfl,G,rfl⟩;refine ⟨[],?_⟩))
 all_goals (try conv=>whnf)
 exact ⟨aD,pl,rfl,.inl ⟨rfl,hb,rfl⟩,_,rfl⟩
theorem Ug{pl:List (Value×List Bx)}(hT:iu R A L)(hs:Sf L p)(b0:p.is cd=false)(b1:p.is bU=false)(b2:p.is cC=false)(b3:p.is dH=false)(b4:p.is jn=false)(b5:p.is fi=false):CP [] 219 [.ptr 0 0] [dX A m L e p,.res R,.res (aF pl)] (ld R A m L e (br e p).1 (br e p).2 pl):=by
 obtain ⟨y,hy⟩:∃y,y=p.place e:=⟨_,rfl⟩;have hd:br e p=((dJ e { Dc.zero with line:=y.1,aX:=y.2 } (p.ba e)).1,(dJ e { Dc.zero with line:=y.1,aX:=y.2 } (p.ba e)).2.want e [59]):=by
  unfold br;rw[hy];simp only[b0,b1,b2,b3,b4,b5,if_true,Bool.false_eq_true,if_false]
 rw[hd];have qq:=nk (m:=m) (e:=e) hT hs;rw[<-hy] at qq;have k0:=dU (m:=m) (e:=e) (s:=cd) hT hs;unfold Pr.fQ at k0;rw[b0] at k0;simp only[Bool.false_eq_true,if_false] at k0;have k1:=dU (m:=m) (e:=e) (s:=bU) hT hs;unfold Pr.fQ at k1;rw[b1] at k1;simp only[Bool.false_eq_true,if_false] at k1;have k2:=dU (m:=m) (e:=e) (s:=cC) hT hs;unfold Pr.fQ at k2;rw[b2] at k2;simp only[Bool.false_eq_true,if_false] at k2;have k3:=dU (m:=m) (e:=e) (s:=dH) hT hs;unfold Pr.fQ at k3;rw[b3] at k3;simp only[Bool.false_eq_true,if_false] at k3;have k4:=dU (m:=m) (e:=e) (s:=jn) hT hs;unfold Pr.fQ at k4;rw[b4] at k4;simp only[Bool.false_eq_true,if_false] at k4;have k5:=dU (m:=m) (e:=e) (s:=fi) hT hs;unfold Pr.fQ at k5;rw[b5] at k5;simp only[Bool.false_eq_true,if_false] at k5;have kw:=Gp (m:=m) (e:=e) hT hs;have c1:=Lh (m:=m) (e:=e) (d:={ Dc.zero with line:=y.1,aX:=y.2 }) (v:=aD) hT (hs.ba e);have c2:=l9 (m:=m) (e:=e) (s:=[59]) hT ((hs.ba e).EO (d:={ Dc.zero with line:=y.1,aX:=y.2 }) e);have hb:(dJ e { Dc.zero with line:=y.1,aX:=y.2 } (p.ba e)).1.boxes=[]:=rfl;clear hd hs hy;obtain ⟨r,hr⟩:∃r,r=dJ e { Dc.zero with line:=y.1,aX:=y.2 } (p.ba e):=⟨_,rfl⟩;rw[<-hr] at c1 c2 hb ⊢;clear hr;obtain ⟨p1,oh⟩:∃q,q=p.ba e:=⟨_,rfl⟩;rw[<-oh] at kw c1;obtain ⟨q,hq⟩:∃q,q=r.2.want e [59]:=⟨_,rfl⟩;rw[<-hq] at c2;show CP [] _ _ _ (ld R A m L e r.1 (r.2.want e [59]) pl)
 rw[<-hq];clear hq oh;refine ag aa rfl ?_;refine eX.of rfl rfl ?_;refine aI.az fun F hF=>?_;repeat' ((conv=>whnf);first|with_reducible apply af<;>intro _|(show F _ _ _;subst hF;refine aI.az fun F hF=>?_)|(show F _ _ _;subst hF)|(refine qq.use [0,1] rfl rfl ⟨⟨_,rfl,rfl⟩,ko,tU⟩ ?_;rintro _ _ ⟨rfl,G,rfl⟩;refine ⟨[],?_⟩)|(refine k0.use [0,1] rfl rfl ⟨⟨_,rfl,rfl⟩,ko,tU⟩ ?_;rintro _ _ ⟨rfl,G,rfl⟩;refine ⟨[],?_⟩)|(refine k1.use [0,1] rfl rfl ⟨⟨_,rfl,rfl⟩,ko,tU⟩ ?_;rintro _ _ ⟨rfl,G,rfl⟩;refine ⟨[],?_⟩)|(refine k2.use [0,1] rfl rfl ⟨⟨_,rfl,rfl⟩,ko,tU⟩ ?_;rintro _ _ ⟨rfl,G,rfl⟩;refine ⟨[],?_⟩)|(refine k3.use [0,1] rfl rfl ⟨⟨_,rfl,rfl⟩,ko,tU⟩ ?_;rintro _ _ ⟨rfl,G,rfl⟩;refine ⟨[],?_⟩)|(refine k4.use [0,1] rfl rfl ⟨⟨_,rfl,rfl⟩,ko,tU⟩ ?_;rintro _ _ ⟨rfl,G,rfl⟩;refine ⟨[],?_⟩)|(refine k5.use [0,1] rfl rfl ⟨⟨_,rfl,rfl⟩,ko,tU⟩ ?_;rintro _ _ ⟨rfl,G,rfl⟩;refine ⟨[],?_⟩)|(refine kw.use [0,1] rfl rfl ⟨⟨_,rfl,rfl⟩,ko,tU⟩ ?_;rintro _ _ ⟨rfl,G,rfl⟩;refine ⟨[],?_⟩)|(refine c1.use [0,4,1] rfl rfl ⟨⟨_,rfl,rfl⟩,⟨_,rfl,rfl⟩,ko,tU⟩ ?_;rintro _ _ ⟨rfl,G,rfl⟩;refine ⟨[],?_⟩)|(refine c2.use [0,1] rfl rfl ⟨⟨_,rfl,rfl⟩,ko,tU⟩ ?_;rintro _ _ ⟨rfl,G,rfl⟩;refine ⟨[],?_⟩))
 all_goals (try conv=>whnf)
 exact ⟨aD,pl,rfl,.inl ⟨rfl,hb,rfl⟩,_,rfl⟩
theorem Ya{pl:List (Value×List Bx)}(hT:iu R A L)(hs:Sf L p):CP [] 219 [.ptr 0 0] [dX A m L e p,.res R,.res (aF pl)] (ld R A m L e (br e p).1 (br e p).2 pl):=by
 cases b0:p.is cd with
 | true=>exact Ua hT hs b0
 | false=>
 cases b1:p.is bU with
 | true=>exact Ub hT hs b0 b1
 | false=>
 cases b2:p.is cC with
 | true=>exact Uc hT hs b0 b1 b2
 | false=>
 cases b3:p.is dH with
 | true=>exact Ud hT hs b0 b1 b2 b3
 | false=>
 cases b4:p.is jn with
 | true=>exact Ue hT hs b0 b1 b2 b3 b4
 | false=>
 cases b5:p.is fi with
 | true=>exact Uf hT hs b0 b1 b2 b3 b4 b5
 | false=>
 exact Ug hT hs b0 b1 b2 b3 b4 b5
end
theorem SO{c:Ck}{gs:List mg}{pl:List (Value×List Bx)}{rv:Value}{rs:List dc}{d:Dc}{v:Value}(hi:Dn c gs pl rv rs)(lI:c.rules.length<=32)(hb:c.boxes<=32) :
  CP [] 311 [.ptr 0 0,.agg (dA d v)] (pO c gs pl rv rs) (fun u H'=>u=aQ/\∃eY Ah Af,Dn (il d c) gs eY Ah Af/\∃G,H'=pO (il d c) gs eY Ah Af++G):=Pj hi lI hb rfl .refl rfl
structure sc(R:aC)(oa:Option Addr)(l:List Bx):Prop where
 rd:cU Tryz.prog R oA 4 oa (fun b=>.agg (iy b).toArray) l
 lay:l≠[]->∀w S,R.at_ w S->∃b off,oa=some ⟨b,off,none⟩/\ir w b off (l.flatMap iy)
theorem Nq{c:Ck}{gs:List mg}{pl:List (Value×List Bx)}{rv:Value}{rs:List dc}{d:Dc}{R:aC}{oa:Option Addr}{m:Nat}(hi:Dn c gs pl rv rs)(h:sc R oa d.boxes)(aP:d.boxes≠[])(hl:d.boxes.length<=1000000) :
  CP [] 313 [.ptr 0 0,.agg (dA d (.slice oa d.boxes.length m))] (pO c gs pl rv rs++[.res R]) (fun u H'=>u=aQ/\∃FG eY,Dn (gQ d c) FG eY rv rs/\∃G,H'=pO (gQ d c) FG eY rv rs++.res R::G):=by
 obtain ⟨a0,rfl,_⟩:=h.rd.at (k:=0) (List.length_pos_iff.2 aP);cases ha:dy d.name (gs.map fun g=>(g.n,g.v)) with
 | some V=>
   obtain ⟨l,a,n,rfl,_,_,_,has⟩:=EK hi.g ha;have hR:gQ d c=c.ba 20 d.line d.aX:=by unfold gQ;rw[has];rfl
   rw[hR];refine ag aa rfl ?_;repeat' ((conv=>whnf);first|with_reducible apply af<;>intro _|refine aM.drawn aa rfl rfl ?_|with_reducible refine And.intro (aN.mk ⟨_,rfl,rfl⟩) ?_|refine al.lY _ gC fB rfl rfl rfl rfl (fun b hb=>?_) (fun hb=>by rw[ha] at hb;cases hb)|refine And.intro (aN.look _ gC fB rfl rfl rfl rfl rfl (by assumption) rfl rfl) ?_|(obtain rfl:b=.slice (some a) l.length n:=by rw[ha] at hb;exact (Option.some.inj hb).symm)|(refine (gj (c:=c) (gs:=gs) (pl:=pl) (rv:=rv) (rs:=rs) (e:=20) (l:=d.line) (k:=d.aX)).use [0,1,2,3,4,5,6] rfl rfl ⟨⟨_,rfl,rfl⟩,⟨_,rfl,rfl⟩,⟨_,rfl,rfl⟩,⟨_,rfl,rfl⟩,⟨_,rfl,rfl⟩,ko,ko,tU⟩ ?_;rintro _ _ ⟨rfl,G,rfl⟩;refine ⟨[],?_⟩))
   all_goals (try conv=>whnf)
   exact ⟨rfl,gs,pl,⟨hi.g.more dh.g fun _ h=>h,dh.r.trans hi.r,hi.b,hi.v⟩,_,rfl⟩
 | none=>
   have hn:=EJ hi.g ha;cases Iy:d.boxes.all ly with
   | false=>
     have hR:gQ d c=c.ba 33 d.line d.aX:=by unfold gQ;rw[hn,Iy];rfl
     rw[hR];refine ag aa rfl ?_;repeat' ((conv=>whnf);first|with_reducible apply af<;>intro _|refine aM.drawn aa rfl rfl ?_|with_reducible refine And.intro (aN.mk ⟨_,rfl,rfl⟩) ?_|refine al.lY _ gC fB rfl rfl rfl rfl (fun b hb=>by rw[ha] at hb;cases hb) (fun hb=>?_)|refine And.intro (aN.look _ gC fB rfl rfl rfl rfl rfl (by assumption) rfl rfl) ?_|(refine (Bm (m:=m) h.rd hl).use [7] rfl rfl ⟨ko,tU⟩ ?_;rintro _ _ ⟨rfl,G,rfl⟩;refine ⟨[],?_⟩;rw[Iy])|(refine (gj (c:=c) (gs:=gs) (pl:=pl) (rv:=rv) (rs:=rs) (e:=33) (l:=d.line) (k:=d.aX)).use [0,1,2,3,4,5,6] rfl rfl ⟨⟨_,rfl,rfl⟩,⟨_,rfl,rfl⟩,⟨_,rfl,rfl⟩,⟨_,rfl,rfl⟩,⟨_,rfl,rfl⟩,ko,ko,tU⟩ ?_;rintro _ _ ⟨rfl,G,rfl⟩;refine ⟨[],?_⟩))
     all_goals (try conv=>whnf)
     exact ⟨rfl,gs,pl,⟨hi.g.more dh.g fun _ h=>h,dh.r.trans hi.r,hi.b,hi.v⟩,_,rfl⟩
   | true=>
     have hR:gQ d c={ c with regions:=c.regions++[(d.name,d.boxes)] }:=by unfold gQ;rw[hn,Iy];rfl
     rw[hR];refine ag aa rfl ?_;repeat' ((conv=>whnf);first|with_reducible apply af<;>intro _|refine aM.drawn aa rfl rfl ?_|with_reducible refine And.intro (aN.mk ⟨_,rfl,rfl⟩) ?_|refine al.lY _ gC fB rfl rfl rfl rfl (fun b hb=>by rw[ha] at hb;cases hb) (fun hb=>?_)|refine And.intro (aN.look _ gC fB rfl rfl rfl rfl rfl (by assumption) rfl rfl) ?_|(refine (Bm (m:=m) h.rd hl).use [7] rfl rfl ⟨ko,tU⟩ ?_;rintro _ _ ⟨rfl,G,rfl⟩;refine ⟨[],?_⟩;rw[Iy])|(refine al.om (eH.LV aa nj qb (by decide) Fs (i:=5) (j:=7) (l:=d.boxes) (R':=fun v'=>aF (pl++[(v',d.boxes)])) rfl rfl rfl aP rfl rfl (h.lay aP) (fun v' w S1 S2 h1 h2 hd=>rB w S1 S2 h1 h2 hd) (by omega) ?_);intro A n))
     repeat' ((conv=>whnf);first|with_reducible apply af<;>intro _|refine aM.drawn aa rfl rfl ?_|with_reducible refine And.intro (aN.mk ⟨_,rfl,rfl⟩) ?_|refine al.dM (key:=d.name) (a:=(.slice (some A) d.boxes.length n:Value)) gC fB rfl rfl rfl rfl rfl rfl rfl rfl ?_)
     all_goals (try conv=>whnf)
     refine ⟨rfl,gs++[⟨d.name,.slice (some A) d.boxes.length n,d.boxes⟩],pl++[(.slice (some A) d.boxes.length n,d.boxes)],⟨⟨by rw[hi.g.Jk];simp,fun g hg=>?_⟩,hi.r,fun y hy=>(hi.b y hy).more fun p hp=>by simp[hp],hi.v⟩,?_⟩
     ·rcases List.mem_append.1 hg with k|k
      ·obtain ⟨k1,k2⟩:=hi.g.PH g k;exact ⟨by simp[k1],k2⟩
      ·rw[List.mem_singleton.1 k];exact ⟨by simp,aP,hl,_,_,rfl⟩
     ·rw[yd ha];have e:(gs.map fun g=>(g.n,g.v))++[(d.name,(.slice (some A) d.boxes.length n:Value))]=(gs++[(⟨d.name,.slice (some A) d.boxes.length n,d.boxes⟩:mg)]).map fun g=>(g.n,g.v):=by simp
      rw[e];exact ⟨_,rfl⟩
theorem qu{d:Dc}{c:Ck}:(fk d c).regions=c.regions/\(fk d c).rules=c.rules:=by
 unfold fk;repeat' split
 all_goals first|exact ⟨rfl,rfl⟩|exact ⟨dh.g,dh.r⟩
theorem SN{c:Ck}{gs:List mg}{pl:List (Value×List Bx)}{rv:Value}{rs:List dc}{d:Dc}{R:aC}{oa:Option Addr}{m:Nat}(hi:Dn c gs pl rv rs)(lI:c.rules.length<=32)(hb:c.boxes<=32)(hm:fV d=true)(h:sc R oa d.boxes)(hl:d.boxes.length<=1000000) :
  CP [] 221 [.ptr 0 0,.agg (dA d (.slice oa d.boxes.length m))] (pO c gs pl rv rs++[.res R]) (fun u H'=>u=aQ/\∃FG eY Ah Af,Dn (ep d c) FG eY Ah Af/\∃G,H'=pO (ep d c) FG eY Ah Af++.res R::G):=by
 have h3:d.kind=3->d.boxes≠[]:=fun hk=>by
  unfold fV at hm;rw[if_neg (by omega),if_pos hk] at hm;unfold pv at hm;simp only[Bool.and_eq_true,decide_eq_true_eq] at hm;exact hm.1.1.2.2
 refine ag aa rfl ?_;repeat' ((conv=>whnf);first|with_reducible apply af<;>intro _|(refine (Np (c:=c) (gs:=gs) (pl:=pl) (rv:=rv) (rs:=rs) (d:=d) (v:=.slice oa d.boxes.length m) (by simp only[beq_iff_eq] at *;omega)).use [0,1,2,3,4,5,6] rfl rfl ⟨⟨_,rfl,rfl⟩,⟨_,rfl,rfl⟩,⟨_,rfl,rfl⟩,⟨_,rfl,rfl⟩,⟨_,rfl,rfl⟩,ko,ko,tU⟩ ?_;rintro _ _ ⟨rfl,G,rfl⟩;refine ⟨[],?_⟩)|(refine (Nq (m:=m) (rv:=rv) (rs:=rs) hi h (h3 (by simp only[beq_iff_eq] at *;omega)) hl).use [0,1,2,3,4,5,6,7] rfl rfl ⟨⟨_,rfl,rfl⟩,⟨_,rfl,rfl⟩,⟨_,rfl,rfl⟩,⟨_,rfl,rfl⟩,⟨_,rfl,rfl⟩,ko,ko,ko,tU⟩ ?_;rintro _ _ ⟨rfl,FG,eY,kU,G,rfl⟩;refine ⟨[],?_⟩)|(refine (SO (d:=d) (v:=.slice oa d.boxes.length m) hi lI hb).use [0,1,2,3,4,5,6] rfl rfl ⟨⟨_,rfl,rfl⟩,⟨_,rfl,rfl⟩,⟨_,rfl,rfl⟩,⟨_,rfl,rfl⟩,⟨_,rfl,rfl⟩,ko,ko,tU⟩ ?_;rintro _ _ ⟨rfl,eY,Ah,Af,kU,G,rfl⟩;refine ⟨[],?_⟩))
 all_goals (try conv=>whnf)
 all_goals simp only[beq_iff_eq,beq_eq_false_iff_ne] at *
 ·have e:ep d c=fk d c:=by unfold ep;rw[if_pos (by omega)]
  rw[e];exact ⟨tU,gs,pl,rv,rs,⟨hi.g.more qu.1 fun _ h=>h,qu.2.trans hi.r,hi.b,hi.v⟩,_,rfl⟩
 ·have e:ep d c=fk d c:=by unfold ep;rw[if_pos (by omega)]
  rw[e];exact ⟨tU,gs,pl,rv,rs,⟨hi.g.more qu.1 fun _ h=>h,qu.2.trans hi.r,hi.b,hi.v⟩,_,rfl⟩
 ·have e:ep d c=gQ d c:=by unfold ep;rw[if_neg (by omega),if_pos (by omega)]
  rw[e];exact ⟨tU,FG,eY,rv,rs,kU,_,rfl⟩
 ·have e:ep d c=il d c:=by unfold ep;rw[if_neg (by omega),if_neg (by omega)]
  rw[e];exact ⟨tU,gs,eY,Ah,Af,kU,_,rfl⟩
theorem Hz{c:Ck}{e l k:Nat}(he:e≠0):(c.ba e l k).fault.err≠0:=by
 unfold Ck.ba;split
 ·exact he
 ·assumption
theorem jX{c:Ck}{e l k:Nat}(h:c.fault.err≠0):(c.ba e l k).fault.err≠0:=by
 unfold Ck.ba;rw[if_neg h];exact h
theorem ES{c:Ck}{k:Nat}{x:gw}(h:c.fault.err≠0):(di k x c).2.fault.err≠0:=by
 unfold di;simp only[];repeat' split
 all_goals first|exact h|exact jX h|exact jX (jX h)
theorem J6{c:Ck}{x:gw}(h:c.fault.err≠0):(cZ x c).2.fault.err≠0:=by
 unfold cZ;repeat' split
 all_goals first|exact h|exact jX h
theorem Kk{d:Dc}{c:Ck}(lI:c.rules.length<=32)(hb:c.boxes<=32)(hf:(il d c).fault.err=0):(il d c).rules.length<=32/\(il d c).boxes<=32:=by
 obtain ⟨c0,e0⟩:∃c0,(if c.rules.length=32 then c.ba 2 d.line d.aX else c)=c0:=⟨_,rfl⟩;obtain ⟨⟨n1,c1⟩,e1⟩:∃q,di 1 d.role c0=q:=⟨_,rfl⟩;have s0:fO c c0:=by rw[<-e0];split;exact dh;exact .refl
 have s1:fO c0 c1:=by have:=uH (c:=c0) (k:=1) (x:=d.role);rw[e1] at this;exact this
 have k1:c0.fault.err≠0->c1.fault.err≠0:=fun h=>by have:=ES (k:=1) (x:=d.role) h;rw[e1] at this;exact this
 have k0:c.rules.length=32->c0.fault.err≠0:=fun h=>by rw[<-e0,if_pos h];exact Hz (by decide)
 by_cases h6:d.kind=6
 ·have hR:=vd h6 e0 e1;rw[hR] at hf ⊢;have hl:c.rules.length≠32:=fun h=>k1 (k0 h) hf;refine ⟨?_,?_⟩
  ·show (c1.rules++[_]).length<=32
   rw[List.length_append,s1.r,s0.r];simp only[List.length_cons,List.length_nil];omega
  ·show c1.boxes<=32
   rw[s1.n,s0.n];exact hb
 ·obtain ⟨c2,e2⟩:∃c2,(if d.hi<d.lo\/7<d.hi then c1.ba 33 d.line d.aX else c1)=c2:=⟨_,rfl⟩;obtain ⟨⟨n2,c3⟩,e3⟩:∃q,di 2 d.label c2=q:=⟨_,rfl⟩;obtain ⟨⟨l2,c4⟩,e4⟩:∃q,cZ d.wh c3=q:=⟨_,rfl⟩;obtain ⟨c5,e5⟩:∃c5,(if 32<c4.boxes+l2.length then c4.ba 2 d.line d.aX else c4)=c5:=⟨_,rfl⟩;obtain ⟨c6,e6⟩:∃c6,(if 16<d.bV then c5.ba 33 d.line d.aX else c5)=c6:=⟨_,rfl⟩;have hR:=vf h6 e0 e1 e2 e3 e4 rfl e5 e6;have s2:fO c1 c2:=by rw[<-e2];split;exact dh;exact .refl
  have s3:fO c2 c3:=by have:=uH (c:=c2) (k:=2) (x:=d.label);rw[e3] at this;exact this
  have s4:fO c3 c4:=by have:=zV (c:=c3) (x:=d.wh);rw[e4] at this;exact this
  have s5:fO c4 c5:=by rw[<-e5];split;exact dh;exact .refl
  have s6:fO c5 c6:=by rw[<-e6];split;exact dh;exact .refl
  have k2:c1.fault.err≠0->c2.fault.err≠0:=fun h=>by rw[<-e2];split;exact jX h;exact h
  have k3:c2.fault.err≠0->c3.fault.err≠0:=fun h=>by have:=ES (k:=2) (x:=d.label) h;rw[e3] at this;exact this
  have k4:c3.fault.err≠0->c4.fault.err≠0:=fun h=>by have:=J6 (x:=d.wh) h;rw[e4] at this;exact this
  have k5:c4.fault.err≠0->c5.fault.err≠0:=fun h=>by rw[<-e5];split;exact jX h;exact h
  have k6:c5.fault.err≠0->c6.fault.err≠0:=fun h=>by rw[<-e6];split;exact jX h;exact h
  have k7:32<c4.boxes+l2.length->c5.fault.err≠0:=fun h=>by rw[<-e5,if_pos h];exact Hz (by decide)
  rw[hR] at hf ⊢;have hl:c.rules.length≠32:=fun h=>k6 (k5 (k4 (k3 (k2 (k1 (k0 h)))))) hf;have iE:¬32<c4.boxes+l2.length:=fun h=>k6 (k7 h) hf;refine ⟨?_,?_⟩
  ·show (c6.rules++[_]).length<=32
   rw[List.length_append,s6.r,s5.r,s4.r,s3.r,s2.r,s1.r,s0.r];simp only[List.length_cons,List.length_nil];omega
  ·show c4.boxes+l2.length<=32
   omega
theorem Ki{d:Dc}{c:Ck}(lI:c.rules.length<=32)(hb:c.boxes<=32)(hf:(ep d c).fault.err=0):(ep d c).rules.length<=32/\(ep d c).boxes<=32:=by
 unfold ep at hf ⊢;split at hf
 ·rename_i hk;rw[if_pos hk,qu.2];refine ⟨lI,?_⟩;unfold fk;repeat' split
  all_goals first|exact hb|(rw[gi];exact hb)
 ·rename_i hk;rw[if_neg hk];split at hf
  ·rename_i Xm;rw[if_pos Xm];unfold gQ;repeat' split
   all_goals first|exact ⟨lI,hb⟩|(rw[gi,dh.r];exact ⟨lI,hb⟩)
  ·rename_i Xm;rw[if_neg Xm];exact Kk lI hb hf
theorem Ev.aj.K9{P:Program}{S:List Nat}{E:Env}(hE:cL P E){f:Nat}{fn:Func}(hf:E.fn f=some fn){args:List AV}{xs:List Value}{x:Value}{H:List ai}{K:AV->List ai->Prop}{R:aC}(i:Nat)(hi:H[i]?=some (.res R))(ha:AV.kF args=some xs)
  (c:∀(w:World) (T:Nat->Prop),R.at_ w T->Calls P f xs.toArray w (fun e w'=>e=.returned x/\Go.RowKit.Below w.heap.size w w')) (k:K (M3 x) H):aj P S f args H K:=⟨fun F γ w ys hR cE cK qp=>by
 have e:=jJ args xs ys.toList ha qp;obtain rfl:ys=xs.toArray:=by rw[<-e]
 obtain ⟨T,hT,_⟩:=cK.out;obtain ⟨S1,_,b1,_⟩:=db (i:=i) (r:=R) hT (by unfold cz;rw[List.getElem?_map,hi];rfl);obtain ⟨F1,fJ,iW⟩:=tK hR cK;refine ⟨(hE.fn f fn hf).2 _ w,fun R fx=>(c w S1 b1).mono ?_⟩;rintro r w' ⟨rfl,hb⟩;obtain ⟨h1,h2⟩:=iW _ _ _ (fJ.grown hb);exact fx _ H γ x w' k (jF _ x (C9 x)) ⟨h1,.refl γ _,cE,h2 H (.refl _)⟩⟩
