/- Part of the proof: Ppr3 Rul3. Conditions: as each states. -/
import Derived.Test.YtmbdghclhpboaaaGreatPw30
set_option linter.all false
set_option maxRecDepth 100000
namespace Go.Proofs.YtmbdghclhpboaaaGreat
open Ev
section
variable{R:aH}{A:Option Addr}{m:Nat}{L:List Tk}{e:Nat×Nat}{p:Pr}
theorem Sf.named{d:Dc}(h:Sf L p)(e:Nat×Nat):Sf L (fG e d p).2:=((h.name e).want e [61]).num e
theorem Sf.region{d:Dc}(h:Sf L p)(e:Nat×Nat):Sf L (ei e d p).2:=((h.name e).want e [61]).boxes e
theorem Sf.DJ{d:Dc}(h:Sf L p)(e:Nat×Nat):Sf L (de e d p).2:=((((((((h.Em (d:=d) e).want e qO).P3 e).want e bK).VO e).want e Fs).where e).want e sR).num e
def Ki(pl eu:List (Value×List Bx))(v:Value)(l:List Bx):Prop:=(v=aO/\l=[]/\eu=pl)\/∃a k,a.spot=none/\v=.slice (some a) l.length k/\l≠[]/\eu=pl++[(v,l)]
def kj(R:aH)(A:Option Addr)(m:Nat)(L:List Tk)(e:Nat×Nat)(x:Dc)(q:Pr)(pl:List (Value×List Bx))(u:AV)(H':List af):Prop:=∃v eu,u=.agg (dA x v)/\Ki pl eu v x.boxes/\∃G,H'=dB A m L e q::.res R::.res (ay eu)::G
theorem Rv{pl:List (Value×List Bx)}(hT:gM R A L)(hs:Sf L p)(b0:p.is bQ=true):CP [] 219 [.ptr 0 0] [dB A m L e p,.res R,.res (ay pl)] (kj R A m L e (bj e p).1 (bj e p).2 pl):=by
 obtain ⟨y,hy⟩:∃y,y=p.place e:=⟨_,rfl⟩;have hd:bj e p=((fG e { Dc.zero with kind:=1,line:=y.1,aS:=y.2 } (p.on)).1,(fG e { Dc.zero with kind:=1,line:=y.1,aS:=y.2 } (p.on)).2.want e [59]):=by
  unfold bj;rw[hy];simp only[b0,if_true,Bool.false_eq_true,if_false]
 rw[hd];have pG:=mq (m:=m) (e:=e) hT hs;rw[<-hy] at pG;have k0:=dy (m:=m) (e:=e) (s:=bQ) hT hs;unfold Pr.fm at k0;rw[b0] at k0;simp only[if_true] at k0;have c1:=KV (m:=m) (e:=e) (d:={ Dc.zero with kind:=1,line:=y.1,aS:=y.2 }) (v:=aO) hT hs.on;have c2:=lD (m:=m) (e:=e) (s:=[59]) hT (hs.on.named (d:={ Dc.zero with kind:=1,line:=y.1,aS:=y.2 }) e);have hb:(fG e { Dc.zero with kind:=1,line:=y.1,aS:=y.2 } (p.on)).1.boxes=[]:=rfl;clear hd hs hy;obtain ⟨r,hr⟩:∃r,r=fG e { Dc.zero with kind:=1,line:=y.1,aS:=y.2 } (p.on):=⟨_,rfl⟩;rw[<-hr] at c1 c2 hb ⊢;clear hr;obtain ⟨p1,nj⟩:∃q,q=p.on:=⟨_,rfl⟩;rw[<-nj] at k0 c1;obtain ⟨q,hq⟩:∃q,q=r.2.want e [59]:=⟨_,rfl⟩;rw[<-hq] at c2;show CP [] _ _ _ (kj R A m L e r.1 (r.2.want e [59]) pl)
 rw[<-hq];clear hq nj;refine ae U rfl ?_;refine eP.of rfl rfl ?_;refine aF.au fun F hF=>?_;repeat' ((conv=>whnf);first|with_reducible apply aa<;>intro _|(show F _ _ _;subst hF;refine aF.au fun F hF=>?_)|(show F _ _ _;subst hF)|(refine pG.use [0,1] rfl rfl ⟨⟨_,rfl,rfl⟩,ko,tU⟩ ?_;rintro _ _ ⟨rfl,G,rfl⟩;refine ⟨[],?_⟩)|(refine k0.use [0,1] rfl rfl ⟨⟨_,rfl,rfl⟩,ko,tU⟩ ?_;rintro _ _ ⟨rfl,G,rfl⟩;refine ⟨[],?_⟩)|(refine c1.use [0,4,1] rfl rfl ⟨⟨_,rfl,rfl⟩,⟨_,rfl,rfl⟩,ko,tU⟩ ?_;rintro _ _ ⟨rfl,G,rfl⟩;refine ⟨[],?_⟩)|(refine c2.use [0,1] rfl rfl ⟨⟨_,rfl,rfl⟩,ko,tU⟩ ?_;rintro _ _ ⟨rfl,G,rfl⟩;refine ⟨[],?_⟩))
 all_goals (try conv=>whnf)
 exact ⟨aO,pl,rfl,.inl ⟨rfl,hb,rfl⟩,_,rfl⟩
theorem Rw{pl:List (Value×List Bx)}(hT:gM R A L)(hs:Sf L p)(b0:p.is bQ=false)(b1:p.is bK=true):CP [] 219 [.ptr 0 0] [dB A m L e p,.res R,.res (ay pl)] (kj R A m L e (bj e p).1 (bj e p).2 pl):=by
 obtain ⟨y,hy⟩:∃y,y=p.place e:=⟨_,rfl⟩;have hd:bj e p=((fG e { Dc.zero with kind:=2,line:=y.1,aS:=y.2 } (p.on)).1,(fG e { Dc.zero with kind:=2,line:=y.1,aS:=y.2 } (p.on)).2.want e [59]):=by
  unfold bj;rw[hy];simp only[b0,b1,if_true,Bool.false_eq_true,if_false]
 rw[hd];have pG:=mq (m:=m) (e:=e) hT hs;rw[<-hy] at pG;have k0:=dy (m:=m) (e:=e) (s:=bQ) hT hs;unfold Pr.fm at k0;rw[b0] at k0;simp only[Bool.false_eq_true,if_false] at k0;have k1:=dy (m:=m) (e:=e) (s:=bK) hT hs;unfold Pr.fm at k1;rw[b1] at k1;simp only[if_true] at k1;have c1:=KV (m:=m) (e:=e) (d:={ Dc.zero with kind:=2,line:=y.1,aS:=y.2 }) (v:=aO) hT hs.on;have c2:=lD (m:=m) (e:=e) (s:=[59]) hT (hs.on.named (d:={ Dc.zero with kind:=2,line:=y.1,aS:=y.2 }) e);have hb:(fG e { Dc.zero with kind:=2,line:=y.1,aS:=y.2 } (p.on)).1.boxes=[]:=rfl;clear hd hs hy;obtain ⟨r,hr⟩:∃r,r=fG e { Dc.zero with kind:=2,line:=y.1,aS:=y.2 } (p.on):=⟨_,rfl⟩;rw[<-hr] at c1 c2 hb ⊢;clear hr;obtain ⟨p1,nj⟩:∃q,q=p.on:=⟨_,rfl⟩;rw[<-nj] at k1 c1;obtain ⟨q,hq⟩:∃q,q=r.2.want e [59]:=⟨_,rfl⟩;rw[<-hq] at c2;show CP [] _ _ _ (kj R A m L e r.1 (r.2.want e [59]) pl)
 rw[<-hq];clear hq nj;refine ae U rfl ?_;refine eP.of rfl rfl ?_;refine aF.au fun F hF=>?_;repeat' ((conv=>whnf);first|with_reducible apply aa<;>intro _|(show F _ _ _;subst hF;refine aF.au fun F hF=>?_)|(show F _ _ _;subst hF)|(refine pG.use [0,1] rfl rfl ⟨⟨_,rfl,rfl⟩,ko,tU⟩ ?_;rintro _ _ ⟨rfl,G,rfl⟩;refine ⟨[],?_⟩)|(refine k0.use [0,1] rfl rfl ⟨⟨_,rfl,rfl⟩,ko,tU⟩ ?_;rintro _ _ ⟨rfl,G,rfl⟩;refine ⟨[],?_⟩)|(refine k1.use [0,1] rfl rfl ⟨⟨_,rfl,rfl⟩,ko,tU⟩ ?_;rintro _ _ ⟨rfl,G,rfl⟩;refine ⟨[],?_⟩)|(refine c1.use [0,4,1] rfl rfl ⟨⟨_,rfl,rfl⟩,⟨_,rfl,rfl⟩,ko,tU⟩ ?_;rintro _ _ ⟨rfl,G,rfl⟩;refine ⟨[],?_⟩)|(refine c2.use [0,1] rfl rfl ⟨⟨_,rfl,rfl⟩,ko,tU⟩ ?_;rintro _ _ ⟨rfl,G,rfl⟩;refine ⟨[],?_⟩))
 all_goals (try conv=>whnf)
 exact ⟨aO,pl,rfl,.inl ⟨rfl,hb,rfl⟩,_,rfl⟩
theorem Rx{pl:List (Value×List Bx)}(hT:gM R A L)(hs:Sf L p)(b0:p.is bQ=false)(b1:p.is bK=false)(b2:p.is bX=true):CP [] 219 [.ptr 0 0] [dB A m L e p,.res R,.res (ay pl)] (kj R A m L e (bj e p).1 (bj e p).2 pl):=by
 obtain ⟨y,hy⟩:∃y,y=p.place e:=⟨_,rfl⟩;have hd:bj e p=((ei e { Dc.zero with kind:=3,line:=y.1,aS:=y.2 } (p.on)).1,(ei e { Dc.zero with kind:=3,line:=y.1,aS:=y.2 } (p.on)).2.want e [59]):=by
  unfold bj;rw[hy];simp only[b0,b1,b2,if_true,Bool.false_eq_true,if_false]
 rw[hd];have pG:=mq (m:=m) (e:=e) hT hs;rw[<-hy] at pG;have k0:=dy (m:=m) (e:=e) (s:=bQ) hT hs;unfold Pr.fm at k0;rw[b0] at k0;simp only[Bool.false_eq_true,if_false] at k0;have k1:=dy (m:=m) (e:=e) (s:=bK) hT hs;unfold Pr.fm at k1;rw[b1] at k1;simp only[Bool.false_eq_true,if_false] at k1;have k2:=dy (m:=m) (e:=e) (s:=bX) hT hs;unfold Pr.fm at k2;rw[b2] at k2;simp only[if_true] at k2;have c1:=O9 (m:=m) (e:=e) (d:={ Dc.zero with kind:=3,line:=y.1,aS:=y.2 }) (v:=aO) (pl:=pl) hT hs.on;have c2:=lD (m:=m) (e:=e) (s:=[59]) hT (hs.on.region (d:={ Dc.zero with kind:=3,line:=y.1,aS:=y.2 }) e);clear hd hs hy;obtain ⟨r,hr⟩:∃r,r=ei e { Dc.zero with kind:=3,line:=y.1,aS:=y.2 } (p.on):=⟨_,rfl⟩;rw[<-hr] at c1 c2 ⊢;clear hr;obtain ⟨p1,nj⟩:∃q,q=p.on:=⟨_,rfl⟩;rw[<-nj] at k2 c1;obtain ⟨q,hq⟩:∃q,q=r.2.want e [59]:=⟨_,rfl⟩;rw[<-hq] at c2;show CP [] _ _ _ (kj R A m L e r.1 (r.2.want e [59]) pl)
 rw[<-hq];clear hq nj;obtain ⟨x,q1⟩:=r;simp only[] at c1 c2 ⊢;refine ae U rfl ?_;refine eP.of rfl rfl ?_;refine aF.au fun F hF=>?_;repeat' ((conv=>whnf);first|with_reducible apply aa<;>intro _|(show F _ _ _;subst hF;refine aF.au fun F hF=>?_)|(show F _ _ _;subst hF)|(refine pG.use [0,1] rfl rfl ⟨⟨_,rfl,rfl⟩,ko,tU⟩ ?_;rintro _ _ ⟨rfl,G,rfl⟩;refine ⟨[],?_⟩)|(refine k0.use [0,1] rfl rfl ⟨⟨_,rfl,rfl⟩,ko,tU⟩ ?_;rintro _ _ ⟨rfl,G,rfl⟩;refine ⟨[],?_⟩)|(refine k1.use [0,1] rfl rfl ⟨⟨_,rfl,rfl⟩,ko,tU⟩ ?_;rintro _ _ ⟨rfl,G,rfl⟩;refine ⟨[],?_⟩)|(refine k2.use [0,1] rfl rfl ⟨⟨_,rfl,rfl⟩,ko,tU⟩ ?_;rintro _ _ ⟨rfl,G,rfl⟩;refine ⟨[],?_⟩)|(refine c1.use [0,4,1,2] rfl rfl ⟨⟨_,rfl,rfl⟩,⟨_,rfl,rfl⟩,ko,ko,tU⟩ ?_;rintro _ _ ⟨rfl,a,k,lM,aN,G,rfl⟩;refine ⟨[],?_⟩)|(refine c2.use [0,1] rfl rfl ⟨⟨_,rfl,rfl⟩,ko,tU⟩ ?_;rintro _ _ ⟨rfl,G,rfl⟩;refine ⟨[],?_⟩))
 all_goals (try conv=>whnf)
 exact ⟨_,_,rfl,.inr ⟨a,k,lM,rfl,aN,rfl⟩,_,rfl⟩
theorem Ry{pl:List (Value×List Bx)}(hT:gM R A L)(hs:Sf L p)(b0:p.is bQ=false)(b1:p.is bK=false)(b2:p.is bX=false)(b3:p.is dc=true):CP [] 219 [.ptr 0 0] [dB A m L e p,.res R,.res (ay pl)] (kj R A m L e (bj e p).1 (bj e p).2 pl):=by
 obtain ⟨y,hy⟩:∃y,y=p.place e:=⟨_,rfl⟩;have hd:bj e p=((de e { Dc.zero with kind:=4,line:=y.1,aS:=y.2 } (p.on)).1,(de e { Dc.zero with kind:=4,line:=y.1,aS:=y.2 } (p.on)).2.want e [59]):=by
  unfold bj;rw[hy];simp only[b0,b1,b2,b3,if_true,Bool.false_eq_true,if_false]
 rw[hd];have pG:=mq (m:=m) (e:=e) hT hs;rw[<-hy] at pG;have k0:=dy (m:=m) (e:=e) (s:=bQ) hT hs;unfold Pr.fm at k0;rw[b0] at k0;simp only[Bool.false_eq_true,if_false] at k0;have k1:=dy (m:=m) (e:=e) (s:=bK) hT hs;unfold Pr.fm at k1;rw[b1] at k1;simp only[Bool.false_eq_true,if_false] at k1;have k2:=dy (m:=m) (e:=e) (s:=bX) hT hs;unfold Pr.fm at k2;rw[b2] at k2;simp only[Bool.false_eq_true,if_false] at k2;have k3:=dy (m:=m) (e:=e) (s:=dc) hT hs;unfold Pr.fm at k3;rw[b3] at k3;simp only[if_true] at k3;have c1:=JO (m:=m) (e:=e) (d:={ Dc.zero with kind:=4,line:=y.1,aS:=y.2 }) (v:=aO) hT hs.on;have c2:=lD (m:=m) (e:=e) (s:=[59]) hT (hs.on.DJ (d:={ Dc.zero with kind:=4,line:=y.1,aS:=y.2 }) e);have hb:(de e { Dc.zero with kind:=4,line:=y.1,aS:=y.2 } (p.on)).1.boxes=[]:=rfl;clear hd hs hy;obtain ⟨r,hr⟩:∃r,r=de e { Dc.zero with kind:=4,line:=y.1,aS:=y.2 } (p.on):=⟨_,rfl⟩;rw[<-hr] at c1 c2 hb ⊢;clear hr;obtain ⟨p1,nj⟩:∃q,q=p.on:=⟨_,rfl⟩;rw[<-nj] at k3 c1;obtain ⟨q,hq⟩:∃q,q=r.2.want e [59]:=⟨_,rfl⟩;rw[<-hq] at c2;show CP [] _ _ _ (kj R A m L e r.1 (r.2.want e [59]) pl)
 rw[<-hq];clear hq nj;refine ae U rfl ?_;refine eP.of rfl rfl ?_;refine aF.au fun F hF=>?_;repeat' ((conv=>whnf);first|with_reducible apply aa<;>intro _|(show F _ _ _;subst hF;refine aF.au fun F hF=>?_)|(show F _ _ _;subst hF)|(refine pG.use [0,1] rfl rfl ⟨⟨_,rfl,rfl⟩,ko,tU⟩ ?_;rintro _ _ ⟨rfl,G,rfl⟩;refine ⟨[],?_⟩)|(refine k0.use [0,1] rfl rfl ⟨⟨_,rfl,rfl⟩,ko,tU⟩ ?_;rintro _ _ ⟨rfl,G,rfl⟩;refine ⟨[],?_⟩)|(refine k1.use [0,1] rfl rfl ⟨⟨_,rfl,rfl⟩,ko,tU⟩ ?_;rintro _ _ ⟨rfl,G,rfl⟩;refine ⟨[],?_⟩)|(refine k2.use [0,1] rfl rfl ⟨⟨_,rfl,rfl⟩,ko,tU⟩ ?_;rintro _ _ ⟨rfl,G,rfl⟩;refine ⟨[],?_⟩)|(refine k3.use [0,1] rfl rfl ⟨⟨_,rfl,rfl⟩,ko,tU⟩ ?_;rintro _ _ ⟨rfl,G,rfl⟩;refine ⟨[],?_⟩)|(refine c1.use [0,4,1] rfl rfl ⟨⟨_,rfl,rfl⟩,⟨_,rfl,rfl⟩,ko,tU⟩ ?_;rintro _ _ ⟨rfl,G,rfl⟩;refine ⟨[],?_⟩)|(refine c2.use [0,1] rfl rfl ⟨⟨_,rfl,rfl⟩,ko,tU⟩ ?_;rintro _ _ ⟨rfl,G,rfl⟩;refine ⟨[],?_⟩))
 all_goals (try conv=>whnf)
 exact ⟨aO,pl,rfl,.inl ⟨rfl,hb,rfl⟩,_,rfl⟩
theorem Rz{pl:List (Value×List Bx)}(hT:gM R A L)(hs:Sf L p)(b0:p.is bQ=false)(b1:p.is bK=false)(b2:p.is bX=false)(b3:p.is dc=false)(b4:p.is iH=true):CP [] 219 [.ptr 0 0] [dB A m L e p,.res R,.res (ay pl)] (kj R A m L e (bj e p).1 (bj e p).2 pl):=by
 obtain ⟨y,hy⟩:∃y,y=p.place e:=⟨_,rfl⟩;have hd:bj e p=((de e { Dc.zero with kind:=5,line:=y.1,aS:=y.2 } (p.on)).1,(de e { Dc.zero with kind:=5,line:=y.1,aS:=y.2 } (p.on)).2.want e [59]):=by
  unfold bj;rw[hy];simp only[b0,b1,b2,b3,b4,if_true,Bool.false_eq_true,if_false]
 rw[hd];have pG:=mq (m:=m) (e:=e) hT hs;rw[<-hy] at pG;have k0:=dy (m:=m) (e:=e) (s:=bQ) hT hs;unfold Pr.fm at k0;rw[b0] at k0;simp only[Bool.false_eq_true,if_false] at k0;have k1:=dy (m:=m) (e:=e) (s:=bK) hT hs;unfold Pr.fm at k1;rw[b1] at k1;simp only[Bool.false_eq_true,if_false] at k1;have k2:=dy (m:=m) (e:=e) (s:=bX) hT hs;unfold Pr.fm at k2;rw[b2] at k2;simp only[Bool.false_eq_true,if_false] at k2;have k3:=dy (m:=m) (e:=e) (s:=dc) hT hs;unfold Pr.fm at k3;rw[b3] at k3;simp only[Bool.false_eq_true,if_false] at k3;have k4:=dy (m:=m) (e:=e) (s:=iH) hT hs;unfold Pr.fm at k4;rw[b4] at k4;simp only[if_true] at k4;have c1:=JO (m:=m) (e:=e) (d:={ Dc.zero with kind:=5,line:=y.1,aS:=y.2 }) (v:=aO) hT hs.on;have c2:=lD (m:=m) (e:=e) (s:=[59]) hT (hs.on.DJ (d:={ Dc.zero with kind:=5,line:=y.1,aS:=y.2 }) e);have hb:(de e { Dc.zero with kind:=5,line:=y.1,aS:=y.2 } (p.on)).1.boxes=[]:=rfl;clear hd hs hy;obtain ⟨r,hr⟩:∃r,r=de e { Dc.zero with kind:=5,line:=y.1,aS:=y.2 } (p.on):=⟨_,rfl⟩;rw[<-hr] at c1 c2 hb ⊢;clear hr;obtain ⟨p1,nj⟩:∃q,q=p.on:=⟨_,rfl⟩;rw[<-nj] at k4 c1;obtain ⟨q,hq⟩:∃q,q=r.2.want e [59]:=⟨_,rfl⟩;rw[<-hq] at c2;show CP [] _ _ _ (kj R A m L e r.1 (r.2.want e [59]) pl)
 rw[<-hq];clear hq nj;refine ae U rfl ?_;refine eP.of rfl rfl ?_;refine aF.au fun F hF=>?_;repeat' ((conv=>whnf);first|with_reducible apply aa<;>intro _|(show F _ _ _;subst hF;refine aF.au fun F hF=>?_)|(show F _ _ _;subst hF)|(refine pG.use [0,1] rfl rfl ⟨⟨_,rfl,rfl⟩,ko,tU⟩ ?_;rintro _ _ ⟨rfl,G,rfl⟩;refine ⟨[],?_⟩)|(refine k0.use [0,1] rfl rfl ⟨⟨_,rfl,rfl⟩,ko,tU⟩ ?_;rintro _ _ ⟨rfl,G,rfl⟩;refine ⟨[],?_⟩)|(refine k1.use [0,1] rfl rfl ⟨⟨_,rfl,rfl⟩,ko,tU⟩ ?_;rintro _ _ ⟨rfl,G,rfl⟩;refine ⟨[],?_⟩)|(refine k2.use [0,1] rfl rfl ⟨⟨_,rfl,rfl⟩,ko,tU⟩ ?_;rintro _ _ ⟨rfl,G,rfl⟩;refine ⟨[],?_⟩)|(refine k3.use [0,1] rfl rfl ⟨⟨_,rfl,rfl⟩,ko,tU⟩ ?_;rintro _ _ ⟨rfl,G,rfl⟩;refine ⟨[],?_⟩)|(refine k4.use [0,1] rfl rfl ⟨⟨_,rfl,rfl⟩,ko,tU⟩ ?_;rintro _ _ ⟨rfl,G,rfl⟩;refine ⟨[],?_⟩)|(refine c1.use [0,4,1] rfl rfl ⟨⟨_,rfl,rfl⟩,⟨_,rfl,rfl⟩,ko,tU⟩ ?_;rintro _ _ ⟨rfl,G,rfl⟩;refine ⟨[],?_⟩)|(refine c2.use [0,1] rfl rfl ⟨⟨_,rfl,rfl⟩,ko,tU⟩ ?_;rintro _ _ ⟨rfl,G,rfl⟩;refine ⟨[],?_⟩))
 all_goals (try conv=>whnf)
 exact ⟨aO,pl,rfl,.inl ⟨rfl,hb,rfl⟩,_,rfl⟩
theorem RA{pl:List (Value×List Bx)}(hT:gM R A L)(hs:Sf L p)(b0:p.is bQ=false)(b1:p.is bK=false)(b2:p.is bX=false)(b3:p.is dc=false)(b4:p.is iH=false)(b5:p.is eF=true):CP [] 219 [.ptr 0 0] [dB A m L e p,.res R,.res (ay pl)] (kj R A m L e (bj e p).1 (bj e p).2 pl):=by
 obtain ⟨y,hy⟩:∃y,y=p.place e:=⟨_,rfl⟩;have hd:bj e p=((eh e { Dc.zero with kind:=6,line:=y.1,aS:=y.2 } (p.on)).1,(eh e { Dc.zero with kind:=6,line:=y.1,aS:=y.2 } (p.on)).2.want e [59]):=by
  unfold bj;rw[hy];simp only[b0,b1,b2,b3,b4,b5,if_true,Bool.false_eq_true,if_false]
 rw[hd];have pG:=mq (m:=m) (e:=e) hT hs;rw[<-hy] at pG;have k0:=dy (m:=m) (e:=e) (s:=bQ) hT hs;unfold Pr.fm at k0;rw[b0] at k0;simp only[Bool.false_eq_true,if_false] at k0;have k1:=dy (m:=m) (e:=e) (s:=bK) hT hs;unfold Pr.fm at k1;rw[b1] at k1;simp only[Bool.false_eq_true,if_false] at k1;have k2:=dy (m:=m) (e:=e) (s:=bX) hT hs;unfold Pr.fm at k2;rw[b2] at k2;simp only[Bool.false_eq_true,if_false] at k2;have k3:=dy (m:=m) (e:=e) (s:=dc) hT hs;unfold Pr.fm at k3;rw[b3] at k3;simp only[Bool.false_eq_true,if_false] at k3;have k4:=dy (m:=m) (e:=e) (s:=iH) hT hs;unfold Pr.fm at k4;rw[b4] at k4;simp only[Bool.false_eq_true,if_false] at k4;have k5:=dy (m:=m) (e:=e) (s:=eF) hT hs;unfold Pr.fm at k5;rw[b5] at k5;simp only[if_true] at k5;have c1:=KU (m:=m) (e:=e) (d:={ Dc.zero with kind:=6,line:=y.1,aS:=y.2 }) (v:=aO) hT hs.on;have c2:=lD (m:=m) (e:=e) (s:=[59]) hT (hs.on.Em (d:={ Dc.zero with kind:=6,line:=y.1,aS:=y.2 }) e);have hb:(eh e { Dc.zero with kind:=6,line:=y.1,aS:=y.2 } (p.on)).1.boxes=[]:=rfl;clear hd hs hy;obtain ⟨r,hr⟩:∃r,r=eh e { Dc.zero with kind:=6,line:=y.1,aS:=y.2 } (p.on):=⟨_,rfl⟩;rw[<-hr] at c1 c2 hb ⊢;clear hr;obtain ⟨p1,nj⟩:∃q,q=p.on:=⟨_,rfl⟩;rw[<-nj] at k5 c1;obtain ⟨q,hq⟩:∃q,q=r.2.want e [59]:=⟨_,rfl⟩;rw[<-hq] at c2;show CP [] _ _ _ (kj R A m L e r.1 (r.2.want e [59]) pl)
 rw[<-hq];clear hq nj;refine ae U rfl ?_;refine eP.of rfl rfl ?_;refine aF.au fun F hF=>?_;repeat' ((conv=>whnf);first|with_reducible apply aa<;>intro _|(show F _ _ _;subst hF;refine aF.au fun F hF=>?_)|(show F _ _ _;subst hF)|(refine pG.use [0,1] rfl rfl ⟨⟨_,rfl,rfl⟩,ko,tU⟩ ?_;rintro _ _ ⟨rfl,G,rfl⟩;refine ⟨[],?_⟩)|(refine k0.use [0,1] rfl rfl ⟨⟨_,rfl,rfl⟩,ko,tU⟩ ?_;rintro _ _ ⟨rfl,G,rfl⟩;refine ⟨[],?_⟩)|(refine k1.use [0,1] rfl rfl ⟨⟨_,rfl,rfl⟩,ko,tU⟩ ?_;rintro _ _ ⟨rfl,G,rfl⟩;refine ⟨[],?_⟩)|(refine k2.use [0,1] rfl rfl ⟨⟨_,rfl,rfl⟩,ko,tU⟩ ?_;rintro _ _ ⟨rfl,G,rfl⟩;refine ⟨[],?_⟩)|(refine k3.use [0,1] rfl rfl ⟨⟨_,rfl,rfl⟩,ko,tU⟩ ?_;rintro _ _ ⟨rfl,G,rfl⟩;refine ⟨[],?_⟩)|(refine k4.use [0,1] rfl rfl ⟨⟨_,rfl,rfl⟩,ko,tU⟩ ?_;rintro _ _ ⟨rfl,G,rfl⟩;refine ⟨[],?_⟩)|(refine k5.use [0,1] rfl rfl ⟨⟨_,rfl,rfl⟩,ko,tU⟩ ?_;rintro _ _ ⟨rfl,G,rfl⟩;refine ⟨[],?_⟩)|(refine c1.use [0,4,1] rfl rfl ⟨⟨_,rfl,rfl⟩,⟨_,rfl,rfl⟩,ko,tU⟩ ?_;rintro _ _ ⟨rfl,G,rfl⟩;refine ⟨[],?_⟩)|(refine c2.use [0,1] rfl rfl ⟨⟨_,rfl,rfl⟩,ko,tU⟩ ?_;rintro _ _ ⟨rfl,G,rfl⟩;refine ⟨[],?_⟩))
 all_goals (try conv=>whnf)
 exact ⟨aO,pl,rfl,.inl ⟨rfl,hb,rfl⟩,_,rfl⟩
theorem RB{pl:List (Value×List Bx)}(hT:gM R A L)(hs:Sf L p)(b0:p.is bQ=false)(b1:p.is bK=false)(b2:p.is bX=false)(b3:p.is dc=false)(b4:p.is iH=false)(b5:p.is eF=false):CP [] 219 [.ptr 0 0] [dB A m L e p,.res R,.res (ay pl)] (kj R A m L e (bj e p).1 (bj e p).2 pl):=by
 obtain ⟨y,hy⟩:∃y,y=p.place e:=⟨_,rfl⟩;have hd:bj e p=((de e { Dc.zero with line:=y.1,aS:=y.2 } (p.aV e)).1,(de e { Dc.zero with line:=y.1,aS:=y.2 } (p.aV e)).2.want e [59]):=by
  unfold bj;rw[hy];simp only[b0,b1,b2,b3,b4,b5,if_true,Bool.false_eq_true,if_false]
 rw[hd];have pG:=mq (m:=m) (e:=e) hT hs;rw[<-hy] at pG;have k0:=dy (m:=m) (e:=e) (s:=bQ) hT hs;unfold Pr.fm at k0;rw[b0] at k0;simp only[Bool.false_eq_true,if_false] at k0;have k1:=dy (m:=m) (e:=e) (s:=bK) hT hs;unfold Pr.fm at k1;rw[b1] at k1;simp only[Bool.false_eq_true,if_false] at k1;have k2:=dy (m:=m) (e:=e) (s:=bX) hT hs;unfold Pr.fm at k2;rw[b2] at k2;simp only[Bool.false_eq_true,if_false] at k2;have k3:=dy (m:=m) (e:=e) (s:=dc) hT hs;unfold Pr.fm at k3;rw[b3] at k3;simp only[Bool.false_eq_true,if_false] at k3;have k4:=dy (m:=m) (e:=e) (s:=iH) hT hs;unfold Pr.fm at k4;rw[b4] at k4;simp only[Bool.false_eq_true,if_false] at k4;have k5:=dy (m:=m) (e:=e) (s:=eF) hT hs;unfold Pr.fm at k5;rw[b5] at k5;simp only[Bool.false_eq_true,if_false] at k5;have kw:=E7 (m:=m) (e:=e) hT hs;have c1:=JO (m:=m) (e:=e) (d:={ Dc.zero with line:=y.1,aS:=y.2 }) (v:=aO) hT (hs.aV e);have c2:=lD (m:=m) (e:=e) (s:=[59]) hT ((hs.aV e).DJ (d:={ Dc.zero with line:=y.1,aS:=y.2 }) e);have hb:(de e { Dc.zero with line:=y.1,aS:=y.2 } (p.aV e)).1.boxes=[]:=rfl;clear hd hs hy;obtain ⟨r,hr⟩:∃r,r=de e { Dc.zero with line:=y.1,aS:=y.2 } (p.aV e):=⟨_,rfl⟩;rw[<-hr] at c1 c2 hb ⊢;clear hr;obtain ⟨p1,nj⟩:∃q,q=p.aV e:=⟨_,rfl⟩;rw[<-nj] at kw c1;obtain ⟨q,hq⟩:∃q,q=r.2.want e [59]:=⟨_,rfl⟩;rw[<-hq] at c2;show CP [] _ _ _ (kj R A m L e r.1 (r.2.want e [59]) pl)
 rw[<-hq];clear hq nj;refine ae U rfl ?_;refine eP.of rfl rfl ?_;refine aF.au fun F hF=>?_;repeat' ((conv=>whnf);first|with_reducible apply aa<;>intro _|(show F _ _ _;subst hF;refine aF.au fun F hF=>?_)|(show F _ _ _;subst hF)|(refine pG.use [0,1] rfl rfl ⟨⟨_,rfl,rfl⟩,ko,tU⟩ ?_;rintro _ _ ⟨rfl,G,rfl⟩;refine ⟨[],?_⟩)|(refine k0.use [0,1] rfl rfl ⟨⟨_,rfl,rfl⟩,ko,tU⟩ ?_;rintro _ _ ⟨rfl,G,rfl⟩;refine ⟨[],?_⟩)|(refine k1.use [0,1] rfl rfl ⟨⟨_,rfl,rfl⟩,ko,tU⟩ ?_;rintro _ _ ⟨rfl,G,rfl⟩;refine ⟨[],?_⟩)|(refine k2.use [0,1] rfl rfl ⟨⟨_,rfl,rfl⟩,ko,tU⟩ ?_;rintro _ _ ⟨rfl,G,rfl⟩;refine ⟨[],?_⟩)|(refine k3.use [0,1] rfl rfl ⟨⟨_,rfl,rfl⟩,ko,tU⟩ ?_;rintro _ _ ⟨rfl,G,rfl⟩;refine ⟨[],?_⟩)|(refine k4.use [0,1] rfl rfl ⟨⟨_,rfl,rfl⟩,ko,tU⟩ ?_;rintro _ _ ⟨rfl,G,rfl⟩;refine ⟨[],?_⟩)|(refine k5.use [0,1] rfl rfl ⟨⟨_,rfl,rfl⟩,ko,tU⟩ ?_;rintro _ _ ⟨rfl,G,rfl⟩;refine ⟨[],?_⟩)|(refine kw.use [0,1] rfl rfl ⟨⟨_,rfl,rfl⟩,ko,tU⟩ ?_;rintro _ _ ⟨rfl,G,rfl⟩;refine ⟨[],?_⟩)|(refine c1.use [0,4,1] rfl rfl ⟨⟨_,rfl,rfl⟩,⟨_,rfl,rfl⟩,ko,tU⟩ ?_;rintro _ _ ⟨rfl,G,rfl⟩;refine ⟨[],?_⟩)|(refine c2.use [0,1] rfl rfl ⟨⟨_,rfl,rfl⟩,ko,tU⟩ ?_;rintro _ _ ⟨rfl,G,rfl⟩;refine ⟨[],?_⟩))
 all_goals (try conv=>whnf)
 exact ⟨aO,pl,rfl,.inl ⟨rfl,hb,rfl⟩,_,rfl⟩
theorem Vx{pl:List (Value×List Bx)}(hT:gM R A L)(hs:Sf L p):CP [] 219 [.ptr 0 0] [dB A m L e p,.res R,.res (ay pl)] (kj R A m L e (bj e p).1 (bj e p).2 pl):=by
 cases b0:p.is bQ with
 | true=>exact Rv hT hs b0
 | false=>
 cases b1:p.is bK with
 | true=>exact Rw hT hs b0 b1
 | false=>
 cases b2:p.is bX with
 | true=>exact Rx hT hs b0 b1 b2
 | false=>
 cases b3:p.is dc with
 | true=>exact Ry hT hs b0 b1 b2 b3
 | false=>
 cases b4:p.is iH with
 | true=>exact Rz hT hs b0 b1 b2 b3 b4
 | false=>
 cases b5:p.is eF with
 | true=>exact RA hT hs b0 b1 b2 b3 b4 b5
 | false=>
 exact RB hT hs b0 b1 b2 b3 b4 b5
end
theorem Qo{c:Ck}{gs:List lI}{pl:List (Value×List Bx)}{rv:Value}{rs:List cL}{d:Dc}{v:Value}(hi:Cf c gs pl rv rs)(kU:c.rules.length<=32)(hb:c.boxes<=32) :
  CP [] 311 [.ptr 0 0,.agg (dA d v)] (o3 c gs pl rv rs) (fun u H'=>u=aP/\∃eu zk zi,Cf (gK d c) gs eu zk zi/\∃G,H'=o3 (gK d c) gs eu zk zi++G):=Nn hi kU hb rfl .refl rfl
structure rf(R:aH)(oa:Option Addr)(l:List Bx):Prop where
 rd:eG Tryz.prog R nA 4 oa (fun b=>.agg (gN b).toArray) l
 lay:l≠[]->∀w S,R.at_ w S->∃b off,oa=some ⟨b,off,none⟩/\gZ w b off (l.flatMap gN)
theorem Lr{c:Ck}{gs:List lI}{pl:List (Value×List Bx)}{rv:Value}{rs:List cL}{d:Dc}{R:aH}{oa:Option Addr}{m:Nat}(hi:Cf c gs pl rv rs)(h:rf R oa d.boxes)(aN:d.boxes≠[])(hl:d.boxes.length<=1000000) :
  CP [] 313 [.ptr 0 0,.agg (dA d (.slice oa d.boxes.length m))] (o3 c gs pl rv rs++[.res R]) (fun u H'=>u=aP/\∃Ey eu,Cf (gq d c) Ey eu rv rs/\∃G,H'=o3 (gq d c) Ey eu rv rs++.res R::G):=by
 obtain ⟨a0,rfl,_⟩:=h.rd.at (k:=0) (List.length_pos_iff.2 aN);cases ha:cV d.name (gs.map fun g=>(g.n,g.v)) with
 | some V=>
   obtain ⟨l,a,n,rfl,_,_,_,has⟩:=DG hi.g ha;have hR:gq d c=c.aV 20 d.line d.aS:=by unfold gq;rw[has];rfl
   rw[hR];refine ae U rfl ?_;repeat' ((conv=>whnf);first|with_reducible apply aa<;>intro _|refine aJ.drawn U rfl rfl ?_|with_reducible refine And.intro (aG.mk ⟨_,rfl,rfl⟩) ?_|refine ai.lx _ fU eR rfl rfl rfl rfl (fun b hb=>?_) (fun hb=>by rw[ha] at hb;cases hb)|refine And.intro (aG.look _ fU eR rfl rfl rfl rfl rfl (by assumption) rfl rfl) ?_|(obtain rfl:b=.slice (some a) l.length n:=by rw[ha] at hb;exact (Option.some.inj hb).symm)|(refine (fL (c:=c) (gs:=gs) (pl:=pl) (rv:=rv) (rs:=rs) (e:=20) (l:=d.line) (k:=d.aS)).use [0,1,2,3,4,5,6] rfl rfl ⟨⟨_,rfl,rfl⟩,⟨_,rfl,rfl⟩,⟨_,rfl,rfl⟩,⟨_,rfl,rfl⟩,⟨_,rfl,rfl⟩,ko,ko,tU⟩ ?_;rintro _ _ ⟨rfl,G,rfl⟩;refine ⟨[],?_⟩))
   all_goals (try conv=>whnf)
   exact ⟨rfl,gs,pl,⟨hi.g.more cO.g fun _ h=>h,cO.r.trans hi.r,hi.b,hi.v⟩,_,rfl⟩
 | none=>
   have hn:=DF hi.g ha;cases GM:d.boxes.all kI with
   | false=>
     have hR:gq d c=c.aV 33 d.line d.aS:=by unfold gq;rw[hn,GM];rfl
     rw[hR];refine ae U rfl ?_;repeat' ((conv=>whnf);first|with_reducible apply aa<;>intro _|refine aJ.drawn U rfl rfl ?_|with_reducible refine And.intro (aG.mk ⟨_,rfl,rfl⟩) ?_|refine ai.lx _ fU eR rfl rfl rfl rfl (fun b hb=>by rw[ha] at hb;cases hb) (fun hb=>?_)|refine And.intro (aG.look _ fU eR rfl rfl rfl rfl rfl (by assumption) rfl rfl) ?_|(refine (Ab (m:=m) h.rd hl).use [7] rfl rfl ⟨ko,tU⟩ ?_;rintro _ _ ⟨rfl,G,rfl⟩;refine ⟨[],?_⟩;rw[GM])|(refine (fL (c:=c) (gs:=gs) (pl:=pl) (rv:=rv) (rs:=rs) (e:=33) (l:=d.line) (k:=d.aS)).use [0,1,2,3,4,5,6] rfl rfl ⟨⟨_,rfl,rfl⟩,⟨_,rfl,rfl⟩,⟨_,rfl,rfl⟩,⟨_,rfl,rfl⟩,⟨_,rfl,rfl⟩,ko,ko,tU⟩ ?_;rintro _ _ ⟨rfl,G,rfl⟩;refine ⟨[],?_⟩))
     all_goals (try conv=>whnf)
     exact ⟨rfl,gs,pl,⟨hi.g.more cO.g fun _ h=>h,cO.r.trans hi.r,hi.b,hi.v⟩,_,rfl⟩
   | true=>
     have hR:gq d c={ c with regions:=c.regions++[(d.name,d.boxes)] }:=by unfold gq;rw[hn,GM];rfl
     rw[hR];refine ae U rfl ?_;repeat' ((conv=>whnf);first|with_reducible apply aa<;>intro _|refine aJ.drawn U rfl rfl ?_|with_reducible refine And.intro (aG.mk ⟨_,rfl,rfl⟩) ?_|refine ai.lx _ fU eR rfl rfl rfl rfl (fun b hb=>by rw[ha] at hb;cases hb) (fun hb=>?_)|refine And.intro (aG.look _ fU eR rfl rfl rfl rfl rfl (by assumption) rfl rfl) ?_|(refine (Ab (m:=m) h.rd hl).use [7] rfl rfl ⟨ko,tU⟩ ?_;rintro _ _ ⟨rfl,G,rfl⟩;refine ⟨[],?_⟩;rw[GM])|(refine ai.om (eU.Kp U mn po (by decide) Eg (i:=5) (j:=7) (l:=d.boxes) (R':=fun v'=>ay (pl++[(v',d.boxes)])) rfl rfl rfl aN rfl rfl (h.lay aN) (fun v' w S1 S2 h1 h2 hd=>qB w S1 S2 h1 h2 hd) (by omega) ?_);intro A n))
     repeat' ((conv=>whnf);first|with_reducible apply aa<;>intro _|refine aJ.drawn U rfl rfl ?_|with_reducible refine And.intro (aG.mk ⟨_,rfl,rfl⟩) ?_|refine ai.dg (key:=d.name) (a:=(.slice (some A) d.boxes.length n:Value)) fU eR rfl rfl rfl rfl rfl rfl rfl rfl ?_)
     all_goals (try conv=>whnf)
     refine ⟨rfl,gs++[⟨d.name,.slice (some A) d.boxes.length n,d.boxes⟩],pl++[(.slice (some A) d.boxes.length n,d.boxes)],⟨⟨by rw[hi.g.HR];simp,fun g hg=>?_⟩,hi.r,fun y hy=>(hi.b y hy).more fun p hp=>by simp[hp],hi.v⟩,?_⟩
     ·rcases List.mem_append.1 hg with k|k
      ·obtain ⟨k1,k2⟩:=hi.g.NG g k;exact ⟨by simp[k1],k2⟩
      ·rw[List.mem_singleton.1 k];exact ⟨by simp,aN,hl,_,_,rfl⟩
     ·rw[xg ha];have e:(gs.map fun g=>(g.n,g.v))++[(d.name,(.slice (some A) d.boxes.length n:Value))]=(gs++[(⟨d.name,.slice (some A) d.boxes.length n,d.boxes⟩:lI)]).map fun g=>(g.n,g.v):=by simp
      rw[e];exact ⟨_,rfl⟩
theorem pJ{d:Dc}{c:Ck}:(eI d c).regions=c.regions/\(eI d c).rules=c.rules:=by
 unfold eI;repeat' split
 all_goals first|exact ⟨rfl,rfl⟩|exact ⟨cO.g,cO.r⟩
theorem Qn{c:Ck}{gs:List lI}{pl:List (Value×List Bx)}{rv:Value}{rs:List cL}{d:Dc}{R:aH}{oa:Option Addr}{m:Nat}(hi:Cf c gs pl rv rs)(kU:c.rules.length<=32)(hb:c.boxes<=32)(hm:fx d=true)(h:rf R oa d.boxes)(hl:d.boxes.length<=1000000) :
  CP [] 221 [.ptr 0 0,.agg (dA d (.slice oa d.boxes.length m))] (o3 c gs pl rv rs++[.res R]) (fun u H'=>u=aP/\∃Ey eu zk zi,Cf (dJ d c) Ey eu zk zi/\∃G,H'=o3 (dJ d c) Ey eu zk zi++.res R::G):=by
 have h3:d.kind=3->d.boxes≠[]:=fun hk=>by
  unfold fx at hm;rw[if_neg (by omega),if_pos hk] at hm;unfold oJ at hm;simp only[Bool.and_eq_true,decide_eq_true_eq] at hm;exact hm.1.1.2.2
 refine ae U rfl ?_;repeat' ((conv=>whnf);first|with_reducible apply aa<;>intro _|(refine (Lq (c:=c) (gs:=gs) (pl:=pl) (rv:=rv) (rs:=rs) (d:=d) (v:=.slice oa d.boxes.length m) (by simp only[beq_iff_eq] at *;omega)).use [0,1,2,3,4,5,6] rfl rfl ⟨⟨_,rfl,rfl⟩,⟨_,rfl,rfl⟩,⟨_,rfl,rfl⟩,⟨_,rfl,rfl⟩,⟨_,rfl,rfl⟩,ko,ko,tU⟩ ?_;rintro _ _ ⟨rfl,G,rfl⟩;refine ⟨[],?_⟩)|(refine (Lr (m:=m) (rv:=rv) (rs:=rs) hi h (h3 (by simp only[beq_iff_eq] at *;omega)) hl).use [0,1,2,3,4,5,6,7] rfl rfl ⟨⟨_,rfl,rfl⟩,⟨_,rfl,rfl⟩,⟨_,rfl,rfl⟩,⟨_,rfl,rfl⟩,⟨_,rfl,rfl⟩,ko,ko,ko,tU⟩ ?_;rintro _ _ ⟨rfl,Ey,eu,j4,G,rfl⟩;refine ⟨[],?_⟩)|(refine (Qo (d:=d) (v:=.slice oa d.boxes.length m) hi kU hb).use [0,1,2,3,4,5,6] rfl rfl ⟨⟨_,rfl,rfl⟩,⟨_,rfl,rfl⟩,⟨_,rfl,rfl⟩,⟨_,rfl,rfl⟩,⟨_,rfl,rfl⟩,ko,ko,tU⟩ ?_;rintro _ _ ⟨rfl,eu,zk,zi,j4,G,rfl⟩;refine ⟨[],?_⟩))
 all_goals (try conv=>whnf)
 all_goals simp only[beq_iff_eq,beq_eq_false_iff_ne] at *
 ·have e:dJ d c=eI d c:=by unfold dJ;rw[if_pos (by omega)]
  rw[e];exact ⟨tU,gs,pl,rv,rs,⟨hi.g.more pJ.1 fun _ h=>h,pJ.2.trans hi.r,hi.b,hi.v⟩,_,rfl⟩
 ·have e:dJ d c=eI d c:=by unfold dJ;rw[if_pos (by omega)]
  rw[e];exact ⟨tU,gs,pl,rv,rs,⟨hi.g.more pJ.1 fun _ h=>h,pJ.2.trans hi.r,hi.b,hi.v⟩,_,rfl⟩
 ·have e:dJ d c=gq d c:=by unfold dJ;rw[if_neg (by omega),if_pos (by omega)]
  rw[e];exact ⟨tU,Ey,eu,rv,rs,j4,_,rfl⟩
 ·have e:dJ d c=gK d c:=by unfold dJ;rw[if_neg (by omega),if_neg (by omega)]
  rw[e];exact ⟨tU,gs,eu,zk,zi,j4,_,rfl⟩
theorem F8{c:Ck}{e l k:Nat}(he:e≠0):(c.aV e l k).fault.err≠0:=by
 unfold Ck.aV;split
 ·exact he
 ·assumption
theorem js{c:Ck}{e l k:Nat}(h:c.fault.err≠0):(c.aV e l k).fault.err≠0:=by
 unfold Ck.aV;rw[if_neg h];exact h
theorem DL{c:Ck}{k:Nat}{x:fQ}(h:c.fault.err≠0):(cP k x c).2.fault.err≠0:=by
 unfold cP;simp only[];repeat' split
 all_goals first|exact h|exact js h|exact js (js h)
theorem IJ{c:Ck}{x:fQ}(h:c.fault.err≠0):(cH x c).2.fault.err≠0:=by
 unfold cH;repeat' split
 all_goals first|exact h|exact js h
theorem IY{d:Dc}{c:Ck}(kU:c.rules.length<=32)(hb:c.boxes<=32)(hf:(gK d c).fault.err=0):(gK d c).rules.length<=32/\(gK d c).boxes<=32:=by
 obtain ⟨c0,e0⟩:∃c0,(if c.rules.length=32 then c.aV 2 d.line d.aS else c)=c0:=⟨_,rfl⟩;obtain ⟨⟨n1,c1⟩,e1⟩:∃q,cP 1 d.role c0=q:=⟨_,rfl⟩;have s0:fi c c0:=by rw[<-e0];split;exact cO;exact .refl
 have s1:fi c0 c1:=by have:=tE (c:=c0) (k:=1) (x:=d.role);rw[e1] at this;exact this
 have k1:c0.fault.err≠0->c1.fault.err≠0:=fun h=>by have:=DL (k:=1) (x:=d.role) h;rw[e1] at this;exact this
 have k0:c.rules.length=32->c0.fault.err≠0:=fun h=>by rw[<-e0,if_pos h];exact F8 (by decide)
 by_cases h6:d.kind=6
 ·have hR:=uE h6 e0 e1;rw[hR] at hf ⊢;have hl:c.rules.length≠32:=fun h=>k1 (k0 h) hf;refine ⟨?_,?_⟩
  ·show (c1.rules++[_]).length<=32
   rw[List.length_append,s1.r,s0.r];simp only[List.length_cons,List.length_nil];omega
  ·show c1.boxes<=32
   rw[s1.n,s0.n];exact hb
 ·obtain ⟨c2,e2⟩:∃c2,(if d.hi<d.lo\/7<d.hi then c1.aV 33 d.line d.aS else c1)=c2:=⟨_,rfl⟩;obtain ⟨⟨n2,c3⟩,e3⟩:∃q,cP 2 d.label c2=q:=⟨_,rfl⟩;obtain ⟨⟨l2,c4⟩,e4⟩:∃q,cH d.wh c3=q:=⟨_,rfl⟩;obtain ⟨c5,e5⟩:∃c5,(if 32<c4.boxes+l2.length then c4.aV 2 d.line d.aS else c4)=c5:=⟨_,rfl⟩;obtain ⟨c6,e6⟩:∃c6,(if 16<d.bO then c5.aV 33 d.line d.aS else c5)=c6:=⟨_,rfl⟩;have hR:=uF h6 e0 e1 e2 e3 e4 rfl e5 e6;have s2:fi c1 c2:=by rw[<-e2];split;exact cO;exact .refl
  have s3:fi c2 c3:=by have:=tE (c:=c2) (k:=2) (x:=d.label);rw[e3] at this;exact this
  have s4:fi c3 c4:=by have:=yY (c:=c3) (x:=d.wh);rw[e4] at this;exact this
  have s5:fi c4 c5:=by rw[<-e5];split;exact cO;exact .refl
  have s6:fi c5 c6:=by rw[<-e6];split;exact cO;exact .refl
  have k2:c1.fault.err≠0->c2.fault.err≠0:=fun h=>by rw[<-e2];split;exact js h;exact h
  have k3:c2.fault.err≠0->c3.fault.err≠0:=fun h=>by have:=DL (k:=2) (x:=d.label) h;rw[e3] at this;exact this
  have k4:c3.fault.err≠0->c4.fault.err≠0:=fun h=>by have:=IJ (x:=d.wh) h;rw[e4] at this;exact this
  have k5:c4.fault.err≠0->c5.fault.err≠0:=fun h=>by rw[<-e5];split;exact js h;exact h
  have k6:c5.fault.err≠0->c6.fault.err≠0:=fun h=>by rw[<-e6];split;exact js h;exact h
  have k7:32<c4.boxes+l2.length->c5.fault.err≠0:=fun h=>by rw[<-e5,if_pos h];exact F8 (by decide)
  rw[hR] at hf ⊢;have hl:c.rules.length≠32:=fun h=>k6 (k5 (k4 (k3 (k2 (k1 (k0 h)))))) hf;have gS:¬32<c4.boxes+l2.length:=fun h=>k6 (k7 h) hf;refine ⟨?_,?_⟩
  ·show (c6.rules++[_]).length<=32
   rw[List.length_append,s6.r,s5.r,s4.r,s3.r,s2.r,s1.r,s0.r];simp only[List.length_cons,List.length_nil];omega
  ·show c4.boxes+l2.length<=32
   omega
theorem IW{d:Dc}{c:Ck}(kU:c.rules.length<=32)(hb:c.boxes<=32)(hf:(dJ d c).fault.err=0):(dJ d c).rules.length<=32/\(dJ d c).boxes<=32:=by
 unfold dJ at hf ⊢;split at hf
 ·rename_i hk;rw[if_pos hk,pJ.2];refine ⟨kU,?_⟩;unfold eI;repeat' split
  all_goals first|exact hb|(rw[fK];exact hb)
 ·rename_i hk;rw[if_neg hk];split at hf
  ·rename_i UG;rw[if_pos UG];unfold gq;repeat' split
   all_goals first|exact ⟨kU,hb⟩|(rw[fK,cO.r];exact ⟨kU,hb⟩)
  ·rename_i UG;rw[if_neg UG];exact IY kU hb hf
end Go.Proofs.YtmbdghclhpboaaaGreat
