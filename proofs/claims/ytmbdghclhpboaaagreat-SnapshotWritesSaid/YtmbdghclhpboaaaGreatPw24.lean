/- Part of the proof: Cif. Conditions: as each states. -/
import Derived.Test.YtmbdghclhpboaaaGreatPw23
set_option linter.all false
set_option maxRecDepth 100000
namespace Go.Proofs.YtmbdghclhpboaaaGreat
open Ev
abbrev Ft:TypeId:=348
theorem pH:pj ev 236 3 (.agg [iA 0,iA 0,iA 0,iA 0,iA 0,iA 0]):=⟨_,_,_,_,rfl,rfl,rfl,rfl,rfl⟩
inductive QT where
 | nil
 | node (a:Addr) (c:bY) (k0 k1 k2 k3:QT) (many:Int) (l:List (Int×eA))
def QT.ptr:QT->Value
 | .nil=>.pointer none
 | .node a _ _ _ _ _ _ _=>.pointer (some a)
def qH(c:bY)(p0 p1 p2 p3:Value)(R0 R1 R2 R3:aH)(many:Int)(l:List (Int×eA)):List af:=[.res R0,.res R1,.res R2,.res R3,.cells [iA c.l,iA c.x,iA c.y,.lit p0,.lit p1,.lit p2,.lit p3,iA many,.map 5] Ft,.br (mE iK MC l)]
def QT.R:QT->aH
 | .nil=>aA
 | .node a c k0 k1 k2 k3 many l=>AtR a 4 (qH c k0.ptr k1.ptr k2.ptr k3.ptr k0.R k1.R k2.R k3.R many l)
theorem wL{c:bY}:CP [] 224 [mV c] [] (fun v H'=>∃a,v=.lit (.pointer (some a))/\H'=[.res (QT.node a c .nil .nil .nil .nil 0 []).R]):=by
 have hn:Value.pointer none=QT.nil.ptr:=rfl;refine ag.lower (K':=fun v H'=>v=.ptr 2 0/\∃B,H'=[B,.br [],.cells [iA c.l,iA c.x,iA c.y,.lit (.pointer none),.lit (.pointer none),.lit (.pointer none),.lit (.pointer none),iA 0,.map 1] Ft,.res aA,.res aA,.res aA,.res aA]/\kh B=aA) ?_ ?_
 ·refine ag.post (K:=fun v H'=>v=.ptr 2 0/\∃B,H'=[B,.br [],.cells [iA c.l,iA c.x,iA c.y,.lit (.pointer none),.lit (.pointer none),.lit (.pointer none),.lit (.pointer none),iA 0,.map 1] Ft]/\kh B=aA) ?_ ?_
  ·refine ag.wk (K:=fun v H'=>v=.ptr 2 0/\∃B,H'=[B,.map [] 0,.cells [iA c.l,iA c.x,iA c.y,.lit (.pointer none),.lit (.pointer none),.lit (.pointer none),.lit (.pointer none),iA 0,.map 1] Ft]/\kh B=aA) ?_ ?_
   ·refine ae U rfl ?_;repeat' ((conv=>whnf);with_reducible apply aa<;>intro _)
    exact ⟨rfl,_,rfl,rfl⟩
   ·rintro _ _ ⟨rfl,B,rfl,hB⟩;exact ⟨_,.same (.map rfl rfl (by simp) (.same .nil)),rfl,B,rfl,hB⟩
  ·rintro _ _ ⟨rfl,B,rfl,hB⟩;refine ⟨_,((fP.more (R:=aA) rfl ?_).trans (fP.more (R:=aA) rfl ?_)).trans ((fP.more (R:=aA) rfl ?_).trans (fP.more (R:=aA) rfl ?_)),rfl,B,rfl,hB⟩;all_goals exact bc.BR _
 ·rintro _ _ ⟨rfl,B,rfl,hB⟩;refine ⟨[],[3,4,5,6,2,1],2,4,qH c (.pointer none) (.pointer none) (.pointer none) (.pointer none) aA aA aA aA 0 [],[],⟨rfl,rfl,tU,⟨⟨_,rfl,rfl⟩,⟨_,rfl,rfl⟩,⟨_,rfl,rfl⟩,⟨_,rfl,rfl⟩,⟨_,rfl,rfl⟩,⟨_,rfl,rfl⟩,tU⟩,bc.dx _ [none,none,none,none,none,none] rfl,fun _=>rfl⟩,rfl,fun a=>⟨a,rfl,rfl⟩⟩
theorem oW{x n:Int}(h:0<=x):0<=ik x n:=by
 unfold ik;rw[Int.fdiv_eq_ediv_of_nonneg _ (by have:=wF n;unfold p2 at this;omega)];exact Int.ediv_nonneg h (by have:=wF n;unfold p2 at this;omega)
theorem DM{x n:Int}(hn:0<=n):ik x (n+1)=ik x n / 2:=by
 unfold ik;have h1:(2:Int) ^ (n+1).toNat=2 ^ n.toNat * 2:=by rw[show (n+1).toNat=n.toNat+1 by omega,Int.pow_succ]
 have h2:=wF n;unfold p2 at h2;rw[Int.fdiv_eq_ediv_of_nonneg _ (by omega),Int.fdiv_eq_ediv_of_nonneg _ (by omega),h1,Int.ediv_ediv_of_nonneg (by omega)]
def iD(h:bY)(l:Int):bY:=⟨l,ik h.x (h.l - l),ik h.y (h.l - l)⟩
theorem IN{h:bY}{l:Int}(hr:h.right=true)(h0:0<=l)(h1:l<=h.l):h.mM l=iD h l:=by
 have:=bY.bd hr;unfold bY.mM iD;rw[if_pos (by simp[hr];omega)]
theorem Ll(h:bY):iD h h.l=h:=by
 unfold iD ik;simp
def xb(c h:bY):Int:=(h.mM (c.l+1)).x % 2+(h.mM (c.l+1)).y % 2 * 2
theorem Lj{h:bY}{l:Int}:0<=(h.mM l).x/\0<=(h.mM l).y:=by
 unfold bY.mM;split
 ·rename_i hc;simp only[Bool.and_eq_true] at hc;have:=bY.bd hc.1;exact ⟨oW (by omega),oW (by omega)⟩
 ·exact ⟨Int.le_refl _,Int.le_refl _⟩
theorem B9(c h:bY):xb c h=0\/xb c h=1\/xb c h=2\/xb c h=3:=by
 unfold xb;omega
theorem Fk{x n m:Int}(hn:0<=n)(hm:0<=m)(h0:0<=x)(h:x<p2 (n+m)):ik x m<p2 n:=by
 unfold ik;unfold p2 at h ⊢;have h2:=wF m;unfold p2 at h2;rw[Int.fdiv_eq_ediv_of_nonneg _ (by omega)];have e:(2:Int) ^ (n+m).toNat=2 ^ n.toNat * 2 ^ m.toNat:=by rw[show (n+m).toNat=n.toNat+m.toNat by omega,Int.pow_add]
 rw[e] at h;exact Int.ediv_lt_of_lt_mul (by omega) h
theorem zT{h:bY}{l:Int}(hr:h.right=true)(h0:0<=l)(h1:l<=h.l):(iD h l).right=true:=by
 have hb:=bY.bd hr;have hd:=of_decide_eq_true hr;refine decide_eq_true ⟨h0,by show l<=16;omega,oW hb.2.2.1,oW hb.2.2.2.1,?_,?_⟩
 ·exact Fk h0 (by omega) hb.2.2.1 (by show h.x<p2 (l+(h.l - l));rw[show l+(h.l - l)=h.l by omega];exact hd.2.2.2.2.1)
 ·exact Fk h0 (by omega) hb.2.2.2.1 (by show h.y<p2 (l+(h.l - l));rw[show l+(h.l - l)=h.l by omega];exact hd.2.2.2.2.2)
theorem IV{h:bY}{l:Int}(hr:h.right=true)(h0:0<=l)(h1:l<h.l):(iD h l).child (xb (iD h l) h)=iD h (l+1):=by
 have hb:=bY.bd hr;have hR:=zT hr h0 (Int.le_of_lt h1);have hw:=B9 (iD h l) h;have e:h.mM ((iD h l).l+1)=iD h (l+1):=IN hr (by show 0<=l+1;omega) (by show l+1<=h.l;omega);unfold bY.child;rw[if_pos (by simp[hR];exact ⟨by show ¬l=16;omega,by omega,by omega⟩)];unfold xb at hw ⊢;rw[e] at hw ⊢;have ex:ik h.x (h.l - l)=ik h.x (h.l - (l+1)) / 2:=by rw[<-DM (by omega)];congr 1;omega
 have ey:ik h.y (h.l - l)=ik h.y (h.l - (l+1)) / 2:=by rw[<-DM (by omega)];congr 1;omega
 unfold iD;simp only[bY.mk.injEq,true_and];rw[ex,ey];constructor<;>omega
theorem Wa{S:List Nat}{H:List af}{K:AV->List af->Prop}{c h:bY}(hc:-9223372036854775808<=c.l/\c.l<=100)(k:K (iA (xb c h)) H):CP S 240 [mV c,mV h] H K:=by
 refine ag.pure ?_ (fun _=>rfl) (fun _=>rfl) k;refine ae U rfl ?_;have e:IntKind.i64.wrap (c.l+1)=c.l+1:=aj (by omega) (by omega);repeat' ((conv=>whnf);first|with_reducible apply aa<;>intro _|(refine Qm (l:=IntKind.i64.wrap (c.l+1)) ?_;rw[e])|refine ai.rem rfl rfl rfl ?_)
 all_goals (try conv=>whnf)
 all_goals
  have hn:=Lj (h:=h) (l:=c.l+1)
  refine congrArg iA ?_
  rw[Int.tmod_eq_emod_of_nonneg hn.1,Int.tmod_eq_emod_of_nonneg hn.2]
  unfold xb
  rw[aj (n:=_ * 2) (by omega) (by omega)]
  exact aj (by omega) (by omega)
def FH:bY->QT->Prop
 | _,.nil=>True
 | c,.node _ c' k0 k1 k2 k3 _ _=>c'=c/\FH (c.child 0) k0/\FH (c.child 1) k1/\FH (c.child 2) k2/\FH (c.child 3) k3
def Eb(c:bY)(v:AV)(H':List af):Prop:=v=aP/\∃ρ k0 k1 k2 k3 many l,CJ ρ 4 H' (qH c k0.ptr k1.ptr k2.ptr k3.ptr k0.R k1.R k2.R k3.R many l) aP/\FH c (.node ⟨0,0,none⟩ c k0 k1 k2 k3 many l)
def M7(a:Addr)(c:bY)(v:AV)(H':List af):Prop:=v=aP/\∃k0 k1 k2 k3 many l,H'=[.res (QT.node a c k0 k1 k2 k3 many l).R]/\FH c (.node a c k0 k1 k2 k3 many l)
theorem Eb.in{f:Nat}{a:Addr}{rest:List AV}{c:bY}{k0 k1 k2 k3:QT}{many:Int}{l:List (Int×eA)}(qk:∀g,AV.ff g rest=rest)(h:CP [] f (.ptr 4 0::rest) (qH c k0.ptr k1.ptr k2.ptr k3.ptr k0.R k1.R k2.R k3.R many l) (Eb c)) :
  CP [] f (.lit (.pointer (some a))::rest) [.res (QT.node a c k0 k1 k2 k3 many l).R] (M7 a c):=
 ag.Cy h qk fun v H' hv=>by
  obtain ⟨rfl,ρ,k0,k1,k2,k3,many,l,h1,h2⟩:=hv;exact ⟨ρ,_,h1,rfl,k0,k1,k2,k3,many,l,rfl,h2⟩
theorem XS{h:bY}(hr:h.right=true){s:eA}:∀(n:Nat) (l:Int),0<=l->l<=h.l->n=(h.l - l).toNat->∀(a:Addr) (k0 k1 k2 k3:QT) (many:Int) (ls:List (Int×eA)),FH (iD h l) (.node a (iD h l) k0 k1 k2 k3 many ls) ->
  CP [] 145 [.lit (.pointer (some a)),mV h,.agg (sM s)] [.res (QT.node a (iD h l) k0 k1 k2 k3 many ls).R] (M7 a (iD h l)):=by
 intro n;induction n with
 | zero=>
   intro l h0 h1 hn a k0 k1 k2 k3 many ls hw;obtain ⟨_,w0,w1,w2,w3⟩:=hw;have e:iD h l=h:=by rw[show l=h.l by omega];exact Ll h
   refine Eb.in (fun _=>rfl) ?_;refine ae U rfl ?_;repeat' ((conv=>whnf);first|with_reducible apply aa<;>intro _|refine aJ.drawn U rfl rfl ?_|with_reducible refine And.intro (aG.mk ⟨_,rfl,rfl⟩) ?_|refine ai.dg (key:=s.id) (a:=s) pH dC rfl rfl rfl rfl rfl rfl rfl rfl ?_)
   all_goals (try conv=>whnf)
   all_goals
    rename_i hc
    rw[FX] at hc
   ·exact ⟨rfl,[0,1,2,3,4,5],k0,k1,k2,k3,_,iR s.id s ls,⟨rfl,rfl,⟨⟨_,rfl,rfl⟩,⟨_,rfl,rfl⟩,⟨_,rfl,rfl⟩,⟨_,rfl,rfl⟩,⟨_,rfl,rfl⟩,⟨_,rfl,rfl⟩,tU⟩,bc.dx _ [some 0,some 1,some 2,some 3,none,none] rfl,fun _=>rfl⟩,rfl,w0,w1,w2,w3⟩
   ·exact absurd e (of_decide_eq_false hc)
 | succ n ih=>
   intro l h0 h1 hn a k0 k1 k2 k3 many ls hw;obtain ⟨_,w0,w1,w2,w3⟩:=hw;have ah:l<h.l:=by omega
   have kz:=IV hr h0 ah;have Hd:=ih (l+1) (by omega) (by omega) (by omega);refine Eb.in (fun _=>rfl) ?_;refine ae U rfl ?_;repeat' ((conv=>whnf);first|with_reducible apply aa<;>intro _|refine aJ.drawn U rfl rfl ?_|with_reducible refine And.intro (aG.mk ⟨_,rfl,rfl⟩) ?_|refine ai.dg (key:=s.id) (a:=s) pH dC rfl rfl rfl rfl rfl rfl rfl rfl ?_)
   all_goals (try conv=>whnf)
   ·exact ⟨rfl,[0,1,2,3,4,5],k0,k1,k2,k3,_,iR s.id s ls,⟨rfl,rfl,⟨⟨_,rfl,rfl⟩,⟨_,rfl,rfl⟩,⟨_,rfl,rfl⟩,⟨_,rfl,rfl⟩,⟨_,rfl,rfl⟩,⟨_,rfl,rfl⟩,tU⟩,bc.dx _ [some 0,some 1,some 2,some 3,none,none] rfl,fun _=>rfl⟩,rfl,w0,w1,w2,w3⟩
   ·refine Wa (c:=iD h l) (by have:=bY.bd hr;exact ⟨by show -9223372036854775808<=l;omega,by show l<=100;omega⟩) ?_;rcases B9 (iD h l) h with hi|hi|hi|hi;all_goals
     rw[hi] at kz ⊢
    ·rcases k0 with _|⟨b,cb,j0,j1,j2,j3,jm,jl⟩
     ·repeat' ((conv=>whnf);first|with_reducible apply aa<;>intro _|refine aJ.drawn U rfl rfl ?_|with_reducible refine And.intro (aG.mk ⟨_,rfl,rfl⟩) ?_|refine aI.of (k:=0) rfl (by omega) ?_|(refine oL ?_;rw[kz])|(refine (wL (c:=iD h (l+1))).use [] rfl rfl trivial ?_;rintro _ _ ⟨b,rfl,rfl⟩;refine ⟨[0],?_⟩)|(refine (Hd b .nil .nil .nil .nil 0 [] ⟨rfl,tU,tU,tU,tU⟩).use [9] rfl rfl ⟨ko,tU⟩ ?_;rintro _ _ ⟨rfl,j0,j1,j2,j3,jm,jl,rfl,jw⟩;refine ⟨[],?_⟩))
      all_goals (try conv=>whnf)
      all_goals exact ⟨rfl,[0,1,2,3,4,5],(.node b (iD h (l+1)) j0 j1 j2 j3 jm jl),k1,k2,k3,_,ls,⟨rfl,rfl,⟨⟨_,rfl,rfl⟩,⟨_,rfl,rfl⟩,⟨_,rfl,rfl⟩,⟨_,rfl,rfl⟩,⟨_,rfl,rfl⟩,⟨_,rfl,rfl⟩,tU⟩,bc.dx _ [some 9,some 1,some 2,some 3,none,none] rfl,fun _=>rfl⟩,rfl,(by rw[kz];exact jw),w1,w2,w3⟩
     ·have mz:cb=iD h (l+1):=w0.1.trans kz;subst mz;have wk:=w0.2;rw[kz] at wk;repeat' ((conv=>whnf);first|with_reducible apply aa<;>intro _|refine aJ.drawn U rfl rfl ?_|with_reducible refine And.intro (aG.mk ⟨_,rfl,rfl⟩) ?_|refine aI.of (k:=0) rfl (by omega) ?_|(refine (Hd b j0 j1 j2 j3 jm jl ⟨rfl,wk⟩).use [0] rfl rfl ⟨ko,tU⟩ ?_;rintro _ _ ⟨rfl,j0,j1,j2,j3,jm,jl,rfl,jw⟩;refine ⟨[],?_⟩))
      all_goals (try conv=>whnf)
      all_goals exact ⟨rfl,[0,1,2,3,4,5],(.node b (iD h (l+1)) j0 j1 j2 j3 jm jl),k1,k2,k3,_,ls,⟨rfl,rfl,⟨⟨_,rfl,rfl⟩,⟨_,rfl,rfl⟩,⟨_,rfl,rfl⟩,⟨_,rfl,rfl⟩,⟨_,rfl,rfl⟩,⟨_,rfl,rfl⟩,tU⟩,bc.dx _ [some 0,some 1,some 2,some 3,none,none] rfl,fun _=>rfl⟩,rfl,(by rw[kz];exact jw),w1,w2,w3⟩
    ·rcases k1 with _|⟨b,cb,j0,j1,j2,j3,jm,jl⟩
     ·repeat' ((conv=>whnf);first|with_reducible apply aa<;>intro _|refine aJ.drawn U rfl rfl ?_|with_reducible refine And.intro (aG.mk ⟨_,rfl,rfl⟩) ?_|refine aI.of (k:=1) rfl (by omega) ?_|(refine oL ?_;rw[kz])|(refine (wL (c:=iD h (l+1))).use [] rfl rfl trivial ?_;rintro _ _ ⟨b,rfl,rfl⟩;refine ⟨[0],?_⟩)|(refine (Hd b .nil .nil .nil .nil 0 [] ⟨rfl,tU,tU,tU,tU⟩).use [9] rfl rfl ⟨ko,tU⟩ ?_;rintro _ _ ⟨rfl,j0,j1,j2,j3,jm,jl,rfl,jw⟩;refine ⟨[],?_⟩))
      all_goals (try conv=>whnf)
      all_goals exact ⟨rfl,[0,1,2,3,4,5],k0,(.node b (iD h (l+1)) j0 j1 j2 j3 jm jl),k2,k3,_,ls,⟨rfl,rfl,⟨⟨_,rfl,rfl⟩,⟨_,rfl,rfl⟩,⟨_,rfl,rfl⟩,⟨_,rfl,rfl⟩,⟨_,rfl,rfl⟩,⟨_,rfl,rfl⟩,tU⟩,bc.dx _ [some 0,some 9,some 2,some 3,none,none] rfl,fun _=>rfl⟩,rfl,w0,(by rw[kz];exact jw),w2,w3⟩
     ·have mz:cb=iD h (l+1):=w1.1.trans kz;subst mz;have wk:=w1.2;rw[kz] at wk;repeat' ((conv=>whnf);first|with_reducible apply aa<;>intro _|refine aJ.drawn U rfl rfl ?_|with_reducible refine And.intro (aG.mk ⟨_,rfl,rfl⟩) ?_|refine aI.of (k:=1) rfl (by omega) ?_|(refine (Hd b j0 j1 j2 j3 jm jl ⟨rfl,wk⟩).use [1] rfl rfl ⟨ko,tU⟩ ?_;rintro _ _ ⟨rfl,j0,j1,j2,j3,jm,jl,rfl,jw⟩;refine ⟨[],?_⟩))
      all_goals (try conv=>whnf)
      all_goals exact ⟨rfl,[0,1,2,3,4,5],k0,(.node b (iD h (l+1)) j0 j1 j2 j3 jm jl),k2,k3,_,ls,⟨rfl,rfl,⟨⟨_,rfl,rfl⟩,⟨_,rfl,rfl⟩,⟨_,rfl,rfl⟩,⟨_,rfl,rfl⟩,⟨_,rfl,rfl⟩,⟨_,rfl,rfl⟩,tU⟩,bc.dx _ [some 0,some 1,some 2,some 3,none,none] rfl,fun _=>rfl⟩,rfl,w0,(by rw[kz];exact jw),w2,w3⟩
    ·rcases k2 with _|⟨b,cb,j0,j1,j2,j3,jm,jl⟩
     ·repeat' ((conv=>whnf);first|with_reducible apply aa<;>intro _|refine aJ.drawn U rfl rfl ?_|with_reducible refine And.intro (aG.mk ⟨_,rfl,rfl⟩) ?_|refine aI.of (k:=2) rfl (by omega) ?_|(refine oL ?_;rw[kz])|(refine (wL (c:=iD h (l+1))).use [] rfl rfl trivial ?_;rintro _ _ ⟨b,rfl,rfl⟩;refine ⟨[0],?_⟩)|(refine (Hd b .nil .nil .nil .nil 0 [] ⟨rfl,tU,tU,tU,tU⟩).use [9] rfl rfl ⟨ko,tU⟩ ?_;rintro _ _ ⟨rfl,j0,j1,j2,j3,jm,jl,rfl,jw⟩;refine ⟨[],?_⟩))
      all_goals (try conv=>whnf)
      all_goals exact ⟨rfl,[0,1,2,3,4,5],k0,k1,(.node b (iD h (l+1)) j0 j1 j2 j3 jm jl),k3,_,ls,⟨rfl,rfl,⟨⟨_,rfl,rfl⟩,⟨_,rfl,rfl⟩,⟨_,rfl,rfl⟩,⟨_,rfl,rfl⟩,⟨_,rfl,rfl⟩,⟨_,rfl,rfl⟩,tU⟩,bc.dx _ [some 0,some 1,some 9,some 3,none,none] rfl,fun _=>rfl⟩,rfl,w0,w1,(by rw[kz];exact jw),w3⟩
     ·have mz:cb=iD h (l+1):=w2.1.trans kz;subst mz;have wk:=w2.2;rw[kz] at wk;repeat' ((conv=>whnf);first|with_reducible apply aa<;>intro _|refine aJ.drawn U rfl rfl ?_|with_reducible refine And.intro (aG.mk ⟨_,rfl,rfl⟩) ?_|refine aI.of (k:=2) rfl (by omega) ?_|(refine (Hd b j0 j1 j2 j3 jm jl ⟨rfl,wk⟩).use [2] rfl rfl ⟨ko,tU⟩ ?_;rintro _ _ ⟨rfl,j0,j1,j2,j3,jm,jl,rfl,jw⟩;refine ⟨[],?_⟩))
      all_goals (try conv=>whnf)
      all_goals exact ⟨rfl,[0,1,2,3,4,5],k0,k1,(.node b (iD h (l+1)) j0 j1 j2 j3 jm jl),k3,_,ls,⟨rfl,rfl,⟨⟨_,rfl,rfl⟩,⟨_,rfl,rfl⟩,⟨_,rfl,rfl⟩,⟨_,rfl,rfl⟩,⟨_,rfl,rfl⟩,⟨_,rfl,rfl⟩,tU⟩,bc.dx _ [some 0,some 1,some 2,some 3,none,none] rfl,fun _=>rfl⟩,rfl,w0,w1,(by rw[kz];exact jw),w3⟩
    ·rcases k3 with _|⟨b,cb,j0,j1,j2,j3,jm,jl⟩
     ·repeat' ((conv=>whnf);first|with_reducible apply aa<;>intro _|refine aJ.drawn U rfl rfl ?_|with_reducible refine And.intro (aG.mk ⟨_,rfl,rfl⟩) ?_|refine aI.of (k:=3) rfl (by omega) ?_|(refine oL ?_;rw[kz])|(refine (wL (c:=iD h (l+1))).use [] rfl rfl trivial ?_;rintro _ _ ⟨b,rfl,rfl⟩;refine ⟨[0],?_⟩)|(refine (Hd b .nil .nil .nil .nil 0 [] ⟨rfl,tU,tU,tU,tU⟩).use [9] rfl rfl ⟨ko,tU⟩ ?_;rintro _ _ ⟨rfl,j0,j1,j2,j3,jm,jl,rfl,jw⟩;refine ⟨[],?_⟩))
      all_goals (try conv=>whnf)
      all_goals exact ⟨rfl,[0,1,2,3,4,5],k0,k1,k2,(.node b (iD h (l+1)) j0 j1 j2 j3 jm jl),_,ls,⟨rfl,rfl,⟨⟨_,rfl,rfl⟩,⟨_,rfl,rfl⟩,⟨_,rfl,rfl⟩,⟨_,rfl,rfl⟩,⟨_,rfl,rfl⟩,⟨_,rfl,rfl⟩,tU⟩,bc.dx _ [some 0,some 1,some 2,some 9,none,none] rfl,fun _=>rfl⟩,rfl,w0,w1,w2,(by rw[kz];exact jw)⟩
     ·have mz:cb=iD h (l+1):=w3.1.trans kz;subst mz;have wk:=w3.2;rw[kz] at wk;repeat' ((conv=>whnf);first|with_reducible apply aa<;>intro _|refine aJ.drawn U rfl rfl ?_|with_reducible refine And.intro (aG.mk ⟨_,rfl,rfl⟩) ?_|refine aI.of (k:=3) rfl (by omega) ?_|(refine (Hd b j0 j1 j2 j3 jm jl ⟨rfl,wk⟩).use [3] rfl rfl ⟨ko,tU⟩ ?_;rintro _ _ ⟨rfl,j0,j1,j2,j3,jm,jl,rfl,jw⟩;refine ⟨[],?_⟩))
      all_goals (try conv=>whnf)
      all_goals exact ⟨rfl,[0,1,2,3,4,5],k0,k1,k2,(.node b (iD h (l+1)) j0 j1 j2 j3 jm jl),_,ls,⟨rfl,rfl,⟨⟨_,rfl,rfl⟩,⟨_,rfl,rfl⟩,⟨_,rfl,rfl⟩,⟨_,rfl,rfl⟩,⟨_,rfl,rfl⟩,⟨_,rfl,rfl⟩,tU⟩,bc.dx _ [some 0,some 1,some 2,some 3,none,none] rfl,fun _=>rfl⟩,rfl,w0,w1,w2,(by rw[kz];exact jw)⟩
end Go.Proofs.YtmbdghclhpboaaaGreat
