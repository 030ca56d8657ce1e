/- Part of the proof: Cif. Conditions: as each states. -/
import Derived.Test.YtmbdghclhpboaaaGreatPq23
set_option linter.all false
set_option maxRecDepth 100000
namespace Go.Proofs.YtmbdghclhpboaaaGreat
open Ev
abbrev GK:TypeId:=348
theorem qt:p8 ev 236 3 (.agg [iA 0,iA 0,iA 0,iA 0,iA 0,iA 0]):=⟨_,_,_,_,rfl,rfl,rfl,rfl,rfl⟩
inductive QT where
 | nil
 | node (a:Addr) (c:cD) (k0 k1 k2 k3:QT) (many:Int) (l:List (Int×df))
def QT.ptr:QT->Value
 | .nil=>.pointer none
 | .node a _ _ _ _ _ _ _=>.pointer (some a)
def qH(c:cD)(p0 p1 p2 p3:Value)(R0 R1 R2 R3:aC)(many:Int)(l:List (Int×df)):List ai:=[.res R0,.res R1,.res R2,.res R3,.cells [iA c.l,iA c.x,iA c.y,.lit p0,.lit p1,.lit p2,.lit p3,iA many,.map 5] GK,.bE (mE iK JK l)]
def QT.R:QT->aC
 | .nil=>aB
 | .node a c k0 k1 k2 k3 many l=>AtR a 4 (qH c k0.ptr k1.ptr k2.ptr k3.ptr k0.R k1.R k2.R k3.R many l)
theorem xC{c:cD}:CP [] 224 [nU c] [] (fun v H'=>∃a,v=.lit (.pointer (some a))/\H'=[.res (QT.node a c .nil .nil .nil .nil 0 []).R]):=by
 have hn:Value.pointer none=QT.nil.ptr:=rfl;refine aj.lower (K':=fun v H'=>v=.ptr 2 0/\∃B,H'=[B,.bE [],.cells [iA c.l,iA c.x,iA c.y,.lit (.pointer none),.lit (.pointer none),.lit (.pointer none),.lit (.pointer none),iA 0,.map 1] GK,.res aB,.res aB,.res aB,.res aB]/\iI B=aB) ?_ ?_
 ·refine aj.post (K:=fun v H'=>v=.ptr 2 0/\∃B,H'=[B,.bE [],.cells [iA c.l,iA c.x,iA c.y,.lit (.pointer none),.lit (.pointer none),.lit (.pointer none),.lit (.pointer none),iA 0,.map 1] GK]/\iI B=aB) ?_ ?_
  ·refine aj.wk (K:=fun v H'=>v=.ptr 2 0/\∃B,H'=[B,.map [] 0,.cells [iA c.l,iA c.x,iA c.y,.lit (.pointer none),.lit (.pointer none),.lit (.pointer none),.lit (.pointer none),iA 0,.map 1] GK]/\iI B=aB) ?_ ?_
   ·refine ag aa rfl ?_;repeat' ((conv=>whnf);with_reducible apply af<;>intro _)
    exact ⟨rfl,_,rfl,rfl⟩
   ·rintro _ _ ⟨rfl,B,rfl,hB⟩;exact ⟨_,.same (.map rfl rfl (by simp) (.same .nil)),rfl,B,rfl,hB⟩
  ·rintro _ _ ⟨rfl,B,rfl,hB⟩;refine ⟨_,((eg.more (R:=aB) rfl ?_).trans (eg.more (R:=aB) rfl ?_)).trans ((eg.more (R:=aB) rfl ?_).trans (eg.more (R:=aB) rfl ?_)),rfl,B,rfl,hB⟩;all_goals exact bj.tX _
 ·rintro _ _ ⟨rfl,B,rfl,hB⟩;refine ⟨[],[3,4,5,6,2,1],2,4,qH c (.pointer none) (.pointer none) (.pointer none) (.pointer none) aB aB aB aB 0 [],[],⟨rfl,rfl,tU,⟨⟨_,rfl,rfl⟩,⟨_,rfl,rfl⟩,⟨_,rfl,rfl⟩,⟨_,rfl,rfl⟩,⟨_,rfl,rfl⟩,⟨_,rfl,rfl⟩,tU⟩,bj.dT _ [none,none,none,none,none,none] rfl,fun _=>rfl⟩,rfl,fun a=>⟨a,rfl,rfl⟩⟩
theorem pH{x n:Int}(h:0<=x):0<=iU x n:=by
 unfold iU;rw[Int.fdiv_eq_ediv_of_nonneg _ (by have:=xw n;unfold p2 at this;omega)];exact Int.ediv_nonneg h (by have:=xw n;unfold p2 at this;omega)
theorem ET{x n:Int}(hn:0<=n):iU x (n+1)=iU x n / 2:=by
 unfold iU;have h1:(2:Int) ^ (n+1).toNat=2 ^ n.toNat * 2:=by rw[show (n+1).toNat=n.toNat+1 by omega,Int.pow_succ]
 have h2:=xw n;unfold p2 at h2;rw[Int.fdiv_eq_ediv_of_nonneg _ (by omega),Int.fdiv_eq_ediv_of_nonneg _ (by omega),h1,Int.ediv_ediv_of_nonneg (by omega)]
def jf(h:cD)(l:Int):cD:=⟨l,iU h.x (h.l - l),iU h.y (h.l - l)⟩
theorem Ka{h:cD}{l:Int}(hr:h.right=true)(h0:0<=l)(h1:l<=h.l):h.nK l=jf h l:=by
 have:=cD.bd hr;unfold cD.nK jf;rw[if_pos (by simp[hr];omega)]
theorem Nj(h:cD):jf h h.l=h:=by
 unfold jf iU;simp
def xZ(c h:cD):Int:=(h.nK (c.l+1)).x % 2+(h.nK (c.l+1)).y % 2 * 2
theorem Ni{h:cD}{l:Int}:0<=(h.nK l).x/\0<=(h.nK l).y:=by
 unfold cD.nK;split
 ·rename_i hc;simp only[Bool.and_eq_true] at hc;have:=cD.bd hc.1;exact ⟨pH (by omega),pH (by omega)⟩
 ·exact ⟨Int.le_refl _,Int.le_refl _⟩
theorem Di(c h:cD):xZ c h=0\/xZ c h=1\/xZ c h=2\/xZ c h=3:=by
 unfold xZ;omega
theorem GC{x n m:Int}(hn:0<=n)(hm:0<=m)(h0:0<=x)(h:x<p2 (n+m)):iU x m<p2 n:=by
 unfold iU;unfold p2 at h ⊢;have h2:=xw m;unfold p2 at h2;rw[Int.fdiv_eq_ediv_of_nonneg _ (by omega)];have e:(2:Int) ^ (n+m).toNat=2 ^ n.toNat * 2 ^ m.toNat:=by rw[show (n+m).toNat=n.toNat+m.toNat by omega,Int.pow_add]
 rw[e] at h;exact Int.ediv_lt_of_lt_mul (by omega) h
theorem AY{h:cD}{l:Int}(hr:h.right=true)(h0:0<=l)(h1:l<=h.l):(jf h l).right=true:=by
 have hb:=cD.bd hr;have hd:=dT1 hr;refine decide_eq_true ⟨h0,by show l<=16;omega,pH hb.2.2.1,pH hb.2.2.2.1,?_,?_⟩
 ·exact GC h0 (by omega) hb.2.2.1 (by show h.x<p2 (l+(h.l - l));rw[show l+(h.l - l)=h.l by omega];exact hd.2.2.2.2.1)
 ·exact GC h0 (by omega) hb.2.2.2.1 (by show h.y<p2 (l+(h.l - l));rw[show l+(h.l - l)=h.l by omega];exact hd.2.2.2.2.2)
theorem Kh{h:cD}{l:Int}(hr:h.right=true)(h0:0<=l)(h1:l<h.l):(jf h l).child (xZ (jf h l) h)=jf h (l+1):=by
 have hb:=cD.bd hr;have hR:=AY hr h0 (Int.le_of_lt h1);have hw:=Di (jf h l) h;have e:h.nK ((jf h l).l+1)=jf h (l+1):=Ka hr (by show 0<=l+1;omega) (by show l+1<=h.l;omega);unfold cD.child;rw[if_pos (by simp[hR];exact ⟨by show ¬l=16;omega,by omega,by omega⟩)];unfold xZ at hw ⊢;rw[e] at hw ⊢;have ex:iU h.x (h.l - l)=iU h.x (h.l - (l+1)) / 2:=by rw[<-ET (by omega)];congr 1;omega
 have ey:iU h.y (h.l - l)=iU h.y (h.l - (l+1)) / 2:=by rw[<-ET (by omega)];congr 1;omega
 unfold jf;simp only[cD.mk.injEq,true_and];rw[ex,ey];constructor<;>omega
theorem YV{S:List Nat}{H:List ai}{K:AV->List ai->Prop}{c h:cD}(hc:-9223372036854775808<=c.l/\c.l<=100)(k:K (iA (xZ c h)) H):CP S 240 [nU c,nU h] H K:=by
 refine aj.pure ?_ (fun _=>rfl) (fun _=>rfl) k;refine ag aa rfl ?_;have e:IntKind.i64.wrap (c.l+1)=c.l+1:=ak (by omega) (by omega);repeat' ((conv=>whnf);first|with_reducible apply af<;>intro _|(refine SM (l:=IntKind.i64.wrap (c.l+1)) ?_;rw[e])|refine al.rem rfl rfl rfl ?_)
 all_goals (try conv=>whnf)
 all_goals
  have hn:=Ni (h:=h) (l:=c.l+1)
  refine congrArg iA ?_
  rw[Int.tmod_eq_emod_of_nonneg hn.1,Int.tmod_eq_emod_of_nonneg hn.2]
  unfold xZ
  rw[ak (n:=_ * 2) (by omega) (by omega)]
  exact ak (by omega) (by omega)
def Hc:cD->QT->Prop
 | _,.nil=>True
 | c,.node _ c' k0 k1 k2 k3 _ _=>c'=c/\Hc (c.child 0) k0/\Hc (c.child 1) k1/\Hc (c.child 2) k2/\Hc (c.child 3) k3
def Fk(c:cD)(v:AV)(H':List ai):Prop:=v=aQ/\∃ρ k0 k1 k2 k3 many l,DP ρ 4 H' (qH c k0.ptr k1.ptr k2.ptr k3.ptr k0.R k1.R k2.R k3.R many l) aQ/\Hc c (.node ⟨0,0,none⟩ c k0 k1 k2 k3 many l)
def OZ(a:Addr)(c:cD)(v:AV)(H':List ai):Prop:=v=aQ/\∃k0 k1 k2 k3 many l,H'=[.res (QT.node a c k0 k1 k2 k3 many l).R]/\Hc c (.node a c k0 k1 k2 k3 many l)
theorem Fk.in{f:Nat}{a:Addr}{rest:List AV}{c:cD}{k0 k1 k2 k3:QT}{many:Int}{l:List (Int×df)}(ra:∀g,AV.eN g rest=rest)(h:CP [] f (.ptr 4 0::rest) (qH c k0.ptr k1.ptr k2.ptr k3.ptr k0.R k1.R k2.R k3.R many l) (Fk c)) :
  CP [] f (.lit (.pointer (some a))::rest) [.res (QT.node a c k0 k1 k2 k3 many l).R] (OZ a c):=
 aj.DG h ra fun v H' hv=>by
  obtain ⟨rfl,ρ,k0,k1,k2,k3,many,l,h1,h2⟩:=hv;exact ⟨ρ,_,h1,rfl,k0,k1,k2,k3,many,l,rfl,h2⟩
theorem aat{h:cD}(hr:h.right=true){s:df}:∀(n:Nat) (l:Int),0<=l->l<=h.l->n=(h.l - l).toNat->∀(a:Addr) (k0 k1 k2 k3:QT) (many:Int) (ls:List (Int×df)),Hc (jf h l) (.node a (jf h l) k0 k1 k2 k3 many ls) ->
  CP [] 145 [.lit (.pointer (some a)),nU h,.agg (pG s)] [.res (QT.node a (jf h l) k0 k1 k2 k3 many ls).R] (OZ a (jf h l)):=by
 intro n;induction n with
 | zero=>
   intro l h0 h1 hn a k0 k1 k2 k3 many ls hw;obtain ⟨_,w0,w1,w2,w3⟩:=hw;have e:jf h l=h:=by rw[show l=h.l by omega];exact Nj h
   refine Fk.in (fun _=>rfl) ?_;refine ag aa rfl ?_;repeat' ((conv=>whnf);first|with_reducible apply af<;>intro _|refine aM.drawn aa rfl rfl ?_|with_reducible refine And.intro (aN.mk ⟨_,rfl,rfl⟩) ?_|refine al.dM (key:=s.id) (a:=s) qt dY rfl rfl rfl rfl rfl rfl rfl rfl ?_)
   all_goals (try conv=>whnf)
   all_goals
    rename_i hc
    rw[Hr] at hc
   ·exact ⟨rfl,[0,1,2,3,4,5],k0,k1,k2,k3,_,jx s.id s ls,⟨rfl,rfl,⟨⟨_,rfl,rfl⟩,⟨_,rfl,rfl⟩,⟨_,rfl,rfl⟩,⟨_,rfl,rfl⟩,⟨_,rfl,rfl⟩,⟨_,rfl,rfl⟩,tU⟩,bj.dT _ [some 0,some 1,some 2,some 3,none,none] rfl,fun _=>rfl⟩,rfl,w0,w1,w2,w3⟩
   ·exact absurd e (dF1 hc)
 | succ n ih=>
   intro l h0 h1 hn a k0 k1 k2 k3 many ls hw;obtain ⟨_,w0,w1,w2,w3⟩:=hw;have an:l<h.l:=by omega
   have lk:=Kh hr h0 an;have IQ:=ih (l+1) (by omega) (by omega) (by omega);refine Fk.in (fun _=>rfl) ?_;refine ag aa rfl ?_;repeat' ((conv=>whnf);first|with_reducible apply af<;>intro _|refine aM.drawn aa rfl rfl ?_|with_reducible refine And.intro (aN.mk ⟨_,rfl,rfl⟩) ?_|refine al.dM (key:=s.id) (a:=s) qt dY rfl rfl rfl rfl rfl rfl rfl rfl ?_)
   all_goals (try conv=>whnf)
   ·exact ⟨rfl,[0,1,2,3,4,5],k0,k1,k2,k3,_,jx s.id s ls,⟨rfl,rfl,⟨⟨_,rfl,rfl⟩,⟨_,rfl,rfl⟩,⟨_,rfl,rfl⟩,⟨_,rfl,rfl⟩,⟨_,rfl,rfl⟩,⟨_,rfl,rfl⟩,tU⟩,bj.dT _ [some 0,some 1,some 2,some 3,none,none] rfl,fun _=>rfl⟩,rfl,w0,w1,w2,w3⟩
   ·refine YV (c:=jf h l) (by have:=cD.bd hr;exact ⟨by show -9223372036854775808<=l;omega,by show l<=100;omega⟩) ?_;rcases Di (jf h l) h with hi|hi|hi|hi;all_goals
     rw[hi] at lk ⊢
    ·rcases k0 with _|⟨b,cb,j0,j1,j2,j3,jm,jl⟩
     ·repeat' ((conv=>whnf);first|with_reducible apply af<;>intro _|refine aM.drawn aa rfl rfl ?_|with_reducible refine And.intro (aN.mk ⟨_,rfl,rfl⟩) ?_|refine aO.of (k:=0) rfl (by omega) ?_|(refine pw ?_;rw[lk])|(refine (xC (c:=jf h (l+1))).use [] rfl rfl trivial ?_;rintro _ _ ⟨b,rfl,rfl⟩;refine ⟨[0],?_⟩)|(refine (IQ b .nil .nil .nil .nil 0 [] ⟨rfl,tU,tU,tU,tU⟩).use [9] rfl rfl ⟨ko,tU⟩ ?_;rintro _ _ ⟨rfl,j0,j1,j2,j3,jm,jl,rfl,jw⟩;refine ⟨[],?_⟩))
      all_goals (try conv=>whnf)
      all_goals exact ⟨rfl,[0,1,2,3,4,5],(.node b (jf h (l+1)) j0 j1 j2 j3 jm jl),k1,k2,k3,_,ls,⟨rfl,rfl,⟨⟨_,rfl,rfl⟩,⟨_,rfl,rfl⟩,⟨_,rfl,rfl⟩,⟨_,rfl,rfl⟩,⟨_,rfl,rfl⟩,⟨_,rfl,rfl⟩,tU⟩,bj.dT _ [some 9,some 1,some 2,some 3,none,none] rfl,fun _=>rfl⟩,rfl,(by rw[lk];exact jw),w1,w2,w3⟩
     ·have nB:cb=jf h (l+1):=w0.1.trans lk;subst nB;have wk:=w0.2;rw[lk] at wk;repeat' ((conv=>whnf);first|with_reducible apply af<;>intro _|refine aM.drawn aa rfl rfl ?_|with_reducible refine And.intro (aN.mk ⟨_,rfl,rfl⟩) ?_|refine aO.of (k:=0) rfl (by omega) ?_|(refine (IQ b j0 j1 j2 j3 jm jl ⟨rfl,wk⟩).use [0] rfl rfl ⟨ko,tU⟩ ?_;rintro _ _ ⟨rfl,j0,j1,j2,j3,jm,jl,rfl,jw⟩;refine ⟨[],?_⟩))
      all_goals (try conv=>whnf)
      all_goals exact ⟨rfl,[0,1,2,3,4,5],(.node b (jf h (l+1)) j0 j1 j2 j3 jm jl),k1,k2,k3,_,ls,⟨rfl,rfl,⟨⟨_,rfl,rfl⟩,⟨_,rfl,rfl⟩,⟨_,rfl,rfl⟩,⟨_,rfl,rfl⟩,⟨_,rfl,rfl⟩,⟨_,rfl,rfl⟩,tU⟩,bj.dT _ [some 0,some 1,some 2,some 3,none,none] rfl,fun _=>rfl⟩,rfl,(by rw[lk];exact jw),w1,w2,w3⟩
    ·rcases k1 with _|⟨b,cb,j0,j1,j2,j3,jm,jl⟩
     ·repeat' ((conv=>whnf);first|with_reducible apply af<;>intro _|refine aM.drawn aa rfl rfl ?_|with_reducible refine And.intro (aN.mk ⟨_,rfl,rfl⟩) ?_|refine aO.of (k:=1) rfl (by omega) ?_|(refine pw ?_;rw[lk])|(refine (xC (c:=jf h (l+1))).use [] rfl rfl trivial ?_;rintro _ _ ⟨b,rfl,rfl⟩;refine ⟨[0],?_⟩)|(refine (IQ b .nil .nil .nil .nil 0 [] ⟨rfl,tU,tU,tU,tU⟩).use [9] rfl rfl ⟨ko,tU⟩ ?_;rintro _ _ ⟨rfl,j0,j1,j2,j3,jm,jl,rfl,jw⟩;refine ⟨[],?_⟩))
      all_goals (try conv=>whnf)
      all_goals exact ⟨rfl,[0,1,2,3,4,5],k0,(.node b (jf h (l+1)) j0 j1 j2 j3 jm jl),k2,k3,_,ls,⟨rfl,rfl,⟨⟨_,rfl,rfl⟩,⟨_,rfl,rfl⟩,⟨_,rfl,rfl⟩,⟨_,rfl,rfl⟩,⟨_,rfl,rfl⟩,⟨_,rfl,rfl⟩,tU⟩,bj.dT _ [some 0,some 9,some 2,some 3,none,none] rfl,fun _=>rfl⟩,rfl,w0,(by rw[lk];exact jw),w2,w3⟩
     ·have nB:cb=jf h (l+1):=w1.1.trans lk;subst nB;have wk:=w1.2;rw[lk] at wk;repeat' ((conv=>whnf);first|with_reducible apply af<;>intro _|refine aM.drawn aa rfl rfl ?_|with_reducible refine And.intro (aN.mk ⟨_,rfl,rfl⟩) ?_|refine aO.of (k:=1) rfl (by omega) ?_|(refine (IQ b j0 j1 j2 j3 jm jl ⟨rfl,wk⟩).use [1] rfl rfl ⟨ko,tU⟩ ?_;rintro _ _ ⟨rfl,j0,j1,j2,j3,jm,jl,rfl,jw⟩;refine ⟨[],?_⟩))
      all_goals (try conv=>whnf)
      all_goals exact ⟨rfl,[0,1,2,3,4,5],k0,(.node b (jf h (l+1)) j0 j1 j2 j3 jm jl),k2,k3,_,ls,⟨rfl,rfl,⟨⟨_,rfl,rfl⟩,⟨_,rfl,rfl⟩,⟨_,rfl,rfl⟩,⟨_,rfl,rfl⟩,⟨_,rfl,rfl⟩,⟨_,rfl,rfl⟩,tU⟩,bj.dT _ [some 0,some 1,some 2,some 3,none,none] rfl,fun _=>rfl⟩,rfl,w0,(by rw[lk];exact jw),w2,w3⟩
    ·rcases k2 with _|⟨b,cb,j0,j1,j2,j3,jm,jl⟩
     ·repeat' ((conv=>whnf);first|with_reducible apply af<;>intro _|refine aM.drawn aa rfl rfl ?_|with_reducible refine And.intro (aN.mk ⟨_,rfl,rfl⟩) ?_|refine aO.of (k:=2) rfl (by omega) ?_|(refine pw ?_;rw[lk])|(refine (xC (c:=jf h (l+1))).use [] rfl rfl trivial ?_;rintro _ _ ⟨b,rfl,rfl⟩;refine ⟨[0],?_⟩)|(refine (IQ b .nil .nil .nil .nil 0 [] ⟨rfl,tU,tU,tU,tU⟩).use [9] rfl rfl ⟨ko,tU⟩ ?_;rintro _ _ ⟨rfl,j0,j1,j2,j3,jm,jl,rfl,jw⟩;refine ⟨[],?_⟩))
      all_goals (try conv=>whnf)
      all_goals exact ⟨rfl,[0,1,2,3,4,5],k0,k1,(.node b (jf h (l+1)) j0 j1 j2 j3 jm jl),k3,_,ls,⟨rfl,rfl,⟨⟨_,rfl,rfl⟩,⟨_,rfl,rfl⟩,⟨_,rfl,rfl⟩,⟨_,rfl,rfl⟩,⟨_,rfl,rfl⟩,⟨_,rfl,rfl⟩,tU⟩,bj.dT _ [some 0,some 1,some 9,some 3,none,none] rfl,fun _=>rfl⟩,rfl,w0,w1,(by rw[lk];exact jw),w3⟩
     ·have nB:cb=jf h (l+1):=w2.1.trans lk;subst nB;have wk:=w2.2;rw[lk] at wk;repeat' ((conv=>whnf);first|with_reducible apply af<;>intro _|refine aM.drawn aa rfl rfl ?_|with_reducible refine And.intro (aN.mk ⟨_,rfl,rfl⟩) ?_|refine aO.of (k:=2) rfl (by omega) ?_|(refine (IQ b j0 j1 j2 j3 jm jl ⟨rfl,wk⟩).use [2] rfl rfl ⟨ko,tU⟩ ?_;rintro _ _ ⟨rfl,j0,j1,j2,j3,jm,jl,rfl,jw⟩;refine ⟨[],?_⟩))
      all_goals (try conv=>whnf)
      all_goals exact ⟨rfl,[0,1,2,3,4,5],k0,k1,(.node b (jf h (l+1)) j0 j1 j2 j3 jm jl),k3,_,ls,⟨rfl,rfl,⟨⟨_,rfl,rfl⟩,⟨_,rfl,rfl⟩,⟨_,rfl,rfl⟩,⟨_,rfl,rfl⟩,⟨_,rfl,rfl⟩,⟨_,rfl,rfl⟩,tU⟩,bj.dT _ [some 0,some 1,some 2,some 3,none,none] rfl,fun _=>rfl⟩,rfl,w0,w1,(by rw[lk];exact jw),w3⟩
    ·rcases k3 with _|⟨b,cb,j0,j1,j2,j3,jm,jl⟩
     ·repeat' ((conv=>whnf);first|with_reducible apply af<;>intro _|refine aM.drawn aa rfl rfl ?_|with_reducible refine And.intro (aN.mk ⟨_,rfl,rfl⟩) ?_|refine aO.of (k:=3) rfl (by omega) ?_|(refine pw ?_;rw[lk])|(refine (xC (c:=jf h (l+1))).use [] rfl rfl trivial ?_;rintro _ _ ⟨b,rfl,rfl⟩;refine ⟨[0],?_⟩)|(refine (IQ b .nil .nil .nil .nil 0 [] ⟨rfl,tU,tU,tU,tU⟩).use [9] rfl rfl ⟨ko,tU⟩ ?_;rintro _ _ ⟨rfl,j0,j1,j2,j3,jm,jl,rfl,jw⟩;refine ⟨[],?_⟩))
      all_goals (try conv=>whnf)
      all_goals exact ⟨rfl,[0,1,2,3,4,5],k0,k1,k2,(.node b (jf h (l+1)) j0 j1 j2 j3 jm jl),_,ls,⟨rfl,rfl,⟨⟨_,rfl,rfl⟩,⟨_,rfl,rfl⟩,⟨_,rfl,rfl⟩,⟨_,rfl,rfl⟩,⟨_,rfl,rfl⟩,⟨_,rfl,rfl⟩,tU⟩,bj.dT _ [some 0,some 1,some 2,some 9,none,none] rfl,fun _=>rfl⟩,rfl,w0,w1,w2,(by rw[lk];exact jw)⟩
     ·have nB:cb=jf h (l+1):=w3.1.trans lk;subst nB;have wk:=w3.2;rw[lk] at wk;repeat' ((conv=>whnf);first|with_reducible apply af<;>intro _|refine aM.drawn aa rfl rfl ?_|with_reducible refine And.intro (aN.mk ⟨_,rfl,rfl⟩) ?_|refine aO.of (k:=3) rfl (by omega) ?_|(refine (IQ b j0 j1 j2 j3 jm jl ⟨rfl,wk⟩).use [3] rfl rfl ⟨ko,tU⟩ ?_;rintro _ _ ⟨rfl,j0,j1,j2,j3,jm,jl,rfl,jw⟩;refine ⟨[],?_⟩))
      all_goals (try conv=>whnf)
      all_goals exact ⟨rfl,[0,1,2,3,4,5],k0,k1,k2,(.node b (jf h (l+1)) j0 j1 j2 j3 jm jl),_,ls,⟨rfl,rfl,⟨⟨_,rfl,rfl⟩,⟨_,rfl,rfl⟩,⟨_,rfl,rfl⟩,⟨_,rfl,rfl⟩,⟨_,rfl,rfl⟩,⟨_,rfl,rfl⟩,tU⟩,bj.dT _ [some 0,some 1,some 2,some 3,none,none] rfl,fun _=>rfl⟩,rfl,w0,w1,w2,(by rw[lk];exact jw)⟩
