/- Part of the proof: Cif. Conditions: as each states. -/
import Derived.Test.YtmbdghclhpboaaaGreatPb23
set_option linter.all false
set_option maxRecDepth 100000
namespace Go.Proofs.YtmbdghclhpboaaaGreat
open Ev
abbrev tNode:TypeId:=348
theorem mapT_shp:MapT ev 236 3 (.agg [iA 0,iA 0,iA 0,iA 0,iA 0,iA 0]):=⟨_,_,_,_,rfl,rfl,rfl,rfl,rfl⟩
inductive QT where
 | nil
 | node (a:Addr) (c:Cel) (k0 k1 k2 k3:QT) (many:Int) (l:List (Int×Shp))
def QT.ptr:QT→Value
 | .nil=>.pointer none
 | .node a _ _ _ _ _ _ _=>.pointer (some a)
def qH(c:Cel)(p0 p1 p2 p3:Value)(R0 R1 R2 R3:Res)(many:Int)(l:List (Int×Shp)):List AObj:=[.res R0,.res R1,.res R2,.res R3,.cells [iA c.l,iA c.x,iA c.y,.lit p0,.lit p1,.lit p2,.lit p3,iA many,.map 5] tNode,.mrow (mE iK shC l)]
def QT.R:QT→Res
 | .nil=>resNil
 | .node a c k0 k1 k2 k3 many l=>AtR a 4 (qH c k0.ptr k1.ptr k2.ptr k3.ptr k0.R k1.R k2.R k3.R many l)
theorem qfresh{c:Cel}:CP [] 224 [celA c] [] (fun v H'=>∃a,v=.lit (.pointer (some a))∧H'=[.res (QT.node a c .nil .nil .nil .nil 0 []).R]):=by
 have hn:Value.pointer none=QT.nil.ptr:=rfl
 refine CallS.lower (K':=fun v H'=>v=.ptr 2 0∧∃B,H'=[B,.mrow [],.cells [iA c.l,iA c.x,iA c.y,.lit (.pointer none),.lit (.pointer none),.lit (.pointer none),.lit (.pointer none),iA 0,.map 1] tNode,.res resNil,.res resNil,.res resNil,.res resNil]∧rsOf B=resNil) ?_ ?_
 ·refine CallS.post (K:=fun v H'=>v=.ptr 2 0∧∃B,H'=[B,.mrow [],.cells [iA c.l,iA c.x,iA c.y,.lit (.pointer none),.lit (.pointer none),.lit (.pointer none),.lit (.pointer none),iA 0,.map 1] tNode]∧rsOf B=resNil) ?_ ?_
  ·refine CallS.wk (K:=fun v H'=>v=.ptr 2 0∧∃B,H'=[B,.map [] 0,.cells [iA c.l,iA c.x,iA c.y,.lit (.pointer none),.lit (.pointer none),.lit (.pointer none),.lit (.pointer none),iA 0,.map 1] tNode]∧rsOf B=resNil) ?_ ?_
   ·refine fn_ok ev_ok rfl ?_
    repeat' ((conv=>whnf);with_reducible apply brP_of<;>intro _)
    exact ⟨rfl,_,rfl,rfl⟩
   ·rintro _ _ ⟨rfl,B,rfl,hB⟩
    exact ⟨_,.same (.map rfl rfl (by simp) (.same .nil)),rfl,B,rfl,hB⟩
  ·rintro _ _ ⟨rfl,B,rfl,hB⟩
   refine ⟨_,((Pre.more (R:=resNil) rfl ?_).trans (Pre.more (R:=resNil) rfl ?_)).trans ((Pre.more (R:=resNil) rfl ?_).trans (Pre.more (R:=resNil) rfl ?_)),rfl,B,rfl,hB⟩
   all_goals exact Ent.snocNil _
 ·rintro _ _ ⟨rfl,B,rfl,hB⟩
  refine ⟨[],[3,4,5,6,2,1],2,4,qH c (.pointer none) (.pointer none) (.pointer none) (.pointer none) resNil resNil resNil resNil 0 [],[],⟨rfl,rfl,tU,⟨⟨_,rfl,rfl⟩,⟨_,rfl,rfl⟩,⟨_,rfl,rfl⟩,⟨_,rfl,rfl⟩,⟨_,rfl,rfl⟩,⟨_,rfl,rfl⟩,tU⟩,Ent.picks _ [none,none,none,none,none,none] rfl,fun _=>rfl⟩,rfl,fun a=>⟨a,rfl,rfl⟩⟩
theorem shr_nn{x n:Int}(h:0≤x):0≤shrI x n:=by
 unfold shrI
 rw[Int.fdiv_eq_ediv_of_nonneg _ (by have:=p2_pos n;unfold p2 at this;omega)]
 exact Int.ediv_nonneg h (by have:=p2_pos n;unfold p2 at this;omega)
theorem shr_succ{x n:Int}(hn:0≤n):shrI x (n+1)=shrI x n / 2:=by
 unfold shrI
 have h1:(2:Int) ^ (n+1).toNat=2 ^ n.toNat * 2:=by rw[show (n+1).toNat=n.toNat+1 by omega,Int.pow_succ]
 have h2:=p2_pos n
 unfold p2 at h2
 rw[Int.fdiv_eq_ediv_of_nonneg _ (by omega),Int.fdiv_eq_ediv_of_nonneg _ (by omega),h1,Int.ediv_ediv_of_nonneg (by omega)]
def anc(h:Cel)(l:Int):Cel:=⟨l,shrI h.x (h.l - l),shrI h.y (h.l - l)⟩
theorem anc_above{h:Cel}{l:Int}(hr:h.right=true)(h0:0≤l)(h1:l≤h.l):h.above l=anc h l:=by
 have:=Cel.bd hr
 unfold Cel.above anc
 rw[if_pos (by simp[hr];omega)]
theorem anc_self(h:Cel):anc h h.l=h:=by
 unfold anc shrI
 simp
def wayI(c h:Cel):Int:=(h.above (c.l+1)).x % 2+(h.above (c.l+1)).y % 2 * 2
theorem above_nn{h:Cel}{l:Int}:0≤(h.above l).x∧0≤(h.above l).y:=by
 unfold Cel.above
 split
 ·rename_i hc
  simp only[Bool.and_eq_true] at hc
  have:=Cel.bd hc.1
  exact ⟨shr_nn (by omega),shr_nn (by omega)⟩
 ·exact ⟨Int.le_refl _,Int.le_refl _⟩
theorem way_cases(c h:Cel):wayI c h=0∨wayI c h=1∨wayI c h=2∨wayI c h=3:=by
 unfold wayI
 omega
theorem shr_lt{x n m:Int}(hn:0≤n)(hm:0≤m)(h0:0≤x)(h:x<p2 (n+m)):shrI x m<p2 n:=by
 unfold shrI
 unfold p2 at h ⊢
 have h2:=p2_pos m
 unfold p2 at h2
 rw[Int.fdiv_eq_ediv_of_nonneg _ (by omega)]
 have e:(2:Int) ^ (n+m).toNat=2 ^ n.toNat * 2 ^ m.toNat:=by rw[show (n+m).toNat=n.toNat+m.toNat by omega,Int.pow_add]
 rw[e] at h
 exact Int.ediv_lt_of_lt_mul (by omega) h
theorem anc_right{h:Cel}{l:Int}(hr:h.right=true)(h0:0≤l)(h1:l≤h.l):(anc h l).right=true:=by
 have hb:=Cel.bd hr
 have hd:=of_decide_eq_true hr
 refine decide_eq_true ⟨h0,by show l≤16;omega,shr_nn hb.2.2.1,shr_nn hb.2.2.2.1,?_,?_⟩
 ·exact shr_lt h0 (by omega) hb.2.2.1 (by show h.x<p2 (l+(h.l - l));rw[show l+(h.l - l)=h.l by omega];exact hd.2.2.2.2.1)
 ·exact shr_lt h0 (by omega) hb.2.2.2.1 (by show h.y<p2 (l+(h.l - l));rw[show l+(h.l - l)=h.l by omega];exact hd.2.2.2.2.2)
theorem child_way{h:Cel}{l:Int}(hr:h.right=true)(h0:0≤l)(h1:l<h.l):(anc h l).child (wayI (anc h l) h)=anc h (l+1):=by
 have hb:=Cel.bd hr
 have hR:=anc_right hr h0 (Int.le_of_lt h1)
 have hw:=way_cases (anc h l) h
 have e:h.above ((anc h l).l+1)=anc h (l+1):=anc_above hr (by show 0≤l+1;omega) (by show l+1≤h.l;omega)
 unfold Cel.child
 rw[if_pos (by simp[hR];exact ⟨by show ¬l=16;omega,by omega,by omega⟩)]
 unfold wayI at hw ⊢
 rw[e] at hw ⊢
 have ex:shrI h.x (h.l - l)=shrI h.x (h.l - (l+1)) / 2:=by rw[←shr_succ (by omega)];congr 1;omega
 have ey:shrI h.y (h.l - l)=shrI h.y (h.l - (l+1)) / 2:=by rw[←shr_succ (by omega)];congr 1;omega
 unfold anc
 simp only[Cel.mk.injEq,true_and]
 rw[ex,ey]
 constructor<;>omega
theorem cway{S:List Nat}{H:List AObj}{K:AV→List AObj→Prop}{c h:Cel}(hc:-9223372036854775808≤c.l∧c.l≤100)(k:K (iA (wayI c h)) H):CP S 240 [celA c,celA h] H K:=by
 refine CallS.pure ?_ (fun _=>rfl) (fun _=>rfl) k
 refine fn_ok ev_ok rfl ?_
 have e:IntKind.i64.wrap (c.l+1)=c.l+1:=wrap_in (by omega) (by omega)
 repeat' ((conv=>whnf);first|with_reducible apply brP_of<;>intro _|(refine cabove (l:=IntKind.i64.wrap (c.l+1)) ?_;rw[e])|refine OpP.rem rfl rfl rfl ?_)
 all_goals (try conv=>whnf)
 all_goals
  have hn:=above_nn (h:=h) (l:=c.l+1)
  refine congrArg iA ?_
  rw[Int.tmod_eq_emod_of_nonneg hn.1,Int.tmod_eq_emod_of_nonneg hn.2]
  unfold wayI
  rw[wrap_in (n:=_ * 2) (by omega) (by omega)]
  exact wrap_in (by omega) (by omega)
def QWf:Cel→QT→Prop
 | _,.nil=>True
 | c,.node _ c' k0 k1 k2 k3 _ _=>c'=c∧QWf (c.child 0) k0∧QWf (c.child 1) k1∧QWf (c.child 2) k2∧QWf (c.child 3) k3
def QLeft(c:Cel)(v:AV)(H':List AObj):Prop:=v=undefV∧∃ρ k0 k1 k2 k3 many l,InOk ρ 4 H' (qH c k0.ptr k1.ptr k2.ptr k3.ptr k0.R k1.R k2.R k3.R many l) undefV∧QWf c (.node ⟨0,0,none⟩ c k0 k1 k2 k3 many l)
def QPost(a:Addr)(c:Cel)(v:AV)(H':List AObj):Prop:=v=undefV∧∃k0 k1 k2 k3 many l,H'=[.res (QT.node a c k0 k1 k2 k3 many l).R]∧QWf c (.node a c k0 k1 k2 k3 many l)
theorem QLeft.in{f:Nat}{a:Addr}{rest:List AV}{c:Cel}{k0 k1 k2 k3:QT}{many:Int}{l:List (Int×Shp)}(hrest:∀g,AV.rens g rest=rest)(h:CP [] f (.ptr 4 0::rest) (qH c k0.ptr k1.ptr k2.ptr k3.ptr k0.R k1.R k2.R k3.R many l) (QLeft c)) :
  CP [] f (.lit (.pointer (some a))::rest) [.res (QT.node a c k0 k1 k2 k3 many l).R] (QPost a c):=
 CallS.inR h hrest fun v H' hv=>by
  obtain ⟨rfl,ρ,k0,k1,k2,k3,many,l,h1,h2⟩:=hv
  exact ⟨ρ,_,h1,rfl,k0,k1,k2,k3,many,l,rfl,h2⟩
theorem qput{h:Cel}(hr:h.right=true){s:Shp}:∀(n:Nat) (l:Int),0≤l→l≤h.l→n=(h.l - l).toNat→∀(a:Addr) (k0 k1 k2 k3:QT) (many:Int) (ls:List (Int×Shp)),QWf (anc h l) (.node a (anc h l) k0 k1 k2 k3 many ls) →
  CP [] 145 [.lit (.pointer (some a)),celA h,.agg (shpA s)] [.res (QT.node a (anc h l) k0 k1 k2 k3 many ls).R] (QPost a (anc h l)):=by
 intro n
 induction n with
 | zero=>
   intro l h0 h1 hn a k0 k1 k2 k3 many ls hw
   obtain ⟨_,w0,w1,w2,w3⟩:=hw
   have e:anc h l=h:=by rw[show l=h.l by omega];exact anc_self h
   refine QLeft.in (fun _=>rfl) ?_
   refine fn_ok ev_ok rfl ?_
   repeat' ((conv=>whnf);first|with_reducible apply brP_of<;>intro _|refine WpS.drawn ev_ok rfl rfl ?_|with_reducible refine And.intro (AgP.mk ⟨_,rfl,rfl⟩) ?_|refine OpP.mput (key:=s.id) (a:=s) mapT_shp keyE_int rfl rfl rfl rfl rfl rfl rfl rfl ?_)
   all_goals (try conv=>whnf)
   all_goals
    rename_i hc
    rw[cel_beq] at hc
   ·exact ⟨rfl,[0,1,2,3,4,5],k0,k1,k2,k3,_,aput s.id s ls,⟨rfl,rfl,⟨⟨_,rfl,rfl⟩,⟨_,rfl,rfl⟩,⟨_,rfl,rfl⟩,⟨_,rfl,rfl⟩,⟨_,rfl,rfl⟩,⟨_,rfl,rfl⟩,tU⟩,Ent.picks _ [some 0,some 1,some 2,some 3,none,none] rfl,fun _=>rfl⟩,rfl,w0,w1,w2,w3⟩
   ·exact absurd e (of_decide_eq_false hc)
 | succ n ih=>
   intro l h0 h1 hn a k0 k1 k2 k3 many ls hw
   obtain ⟨_,w0,w1,w2,w3⟩:=hw
   have hlt:l<h.l:=by omega
   have hch:=child_way hr h0 hlt
   have ihl:=ih (l+1) (by omega) (by omega) (by omega)
   refine QLeft.in (fun _=>rfl) ?_
   refine fn_ok ev_ok rfl ?_
   repeat' ((conv=>whnf);first|with_reducible apply brP_of<;>intro _|refine WpS.drawn ev_ok rfl rfl ?_|with_reducible refine And.intro (AgP.mk ⟨_,rfl,rfl⟩) ?_|refine OpP.mput (key:=s.id) (a:=s) mapT_shp keyE_int rfl rfl rfl rfl rfl rfl rfl rfl ?_)
   all_goals (try conv=>whnf)
   ·exact ⟨rfl,[0,1,2,3,4,5],k0,k1,k2,k3,_,aput s.id s ls,⟨rfl,rfl,⟨⟨_,rfl,rfl⟩,⟨_,rfl,rfl⟩,⟨_,rfl,rfl⟩,⟨_,rfl,rfl⟩,⟨_,rfl,rfl⟩,⟨_,rfl,rfl⟩,tU⟩,Ent.picks _ [some 0,some 1,some 2,some 3,none,none] rfl,fun _=>rfl⟩,rfl,w0,w1,w2,w3⟩
   ·refine cway (c:=anc h l) (by have:=Cel.bd hr;exact ⟨by show -9223372036854775808≤l;omega,by show l≤100;omega⟩) ?_
    rcases way_cases (anc h l) h with hi|hi|hi|hi
    all_goals
     rw[hi] at hch ⊢
    ·rcases k0 with _|⟨b,cb,j0,j1,j2,j3,jm,jl⟩
     ·repeat' ((conv=>whnf);first|with_reducible apply brP_of<;>intro _|refine WpS.drawn ev_ok rfl rfl ?_|with_reducible refine And.intro (AgP.mk ⟨_,rfl,rfl⟩) ?_|refine IdxP.of (k:=0) rfl (by omega) ?_|(refine cchild ?_;rw[hch])|(refine (qfresh (c:=anc h (l+1))).use [] rfl rfl trivial ?_;rintro _ _ ⟨b,rfl,rfl⟩;refine ⟨[0],?_⟩)|(refine (ihl b .nil .nil .nil .nil 0 [] ⟨rfl,tU,tU,tU,tU⟩).use [9] rfl rfl ⟨⟨_,rfl,kp⟩,tU⟩ ?_;rintro _ _ ⟨rfl,j0,j1,j2,j3,jm,jl,rfl,jw⟩;refine ⟨[],?_⟩))
      all_goals (try conv=>whnf)
      all_goals exact ⟨rfl,[0,1,2,3,4,5],(.node b (anc h (l+1)) j0 j1 j2 j3 jm jl),k1,k2,k3,_,ls,⟨rfl,rfl,⟨⟨_,rfl,rfl⟩,⟨_,rfl,rfl⟩,⟨_,rfl,rfl⟩,⟨_,rfl,rfl⟩,⟨_,rfl,rfl⟩,⟨_,rfl,rfl⟩,tU⟩,Ent.picks _ [some 9,some 1,some 2,some 3,none,none] rfl,fun _=>rfl⟩,rfl,(by rw[hch];exact jw),w1,w2,w3⟩
     ·have hcb:cb=anc h (l+1):=w0.1.trans hch
      subst hcb
      have wk:=w0.2
      rw[hch] at wk
      repeat' ((conv=>whnf);first|with_reducible apply brP_of<;>intro _|refine WpS.drawn ev_ok rfl rfl ?_|with_reducible refine And.intro (AgP.mk ⟨_,rfl,rfl⟩) ?_|refine IdxP.of (k:=0) rfl (by omega) ?_|(refine (ihl b j0 j1 j2 j3 jm jl ⟨rfl,wk⟩).use [0] rfl rfl ⟨⟨_,rfl,kp⟩,tU⟩ ?_;rintro _ _ ⟨rfl,j0,j1,j2,j3,jm,jl,rfl,jw⟩;refine ⟨[],?_⟩))
      all_goals (try conv=>whnf)
      all_goals exact ⟨rfl,[0,1,2,3,4,5],(.node b (anc h (l+1)) j0 j1 j2 j3 jm jl),k1,k2,k3,_,ls,⟨rfl,rfl,⟨⟨_,rfl,rfl⟩,⟨_,rfl,rfl⟩,⟨_,rfl,rfl⟩,⟨_,rfl,rfl⟩,⟨_,rfl,rfl⟩,⟨_,rfl,rfl⟩,tU⟩,Ent.picks _ [some 0,some 1,some 2,some 3,none,none] rfl,fun _=>rfl⟩,rfl,(by rw[hch];exact jw),w1,w2,w3⟩
    ·rcases k1 with _|⟨b,cb,j0,j1,j2,j3,jm,jl⟩
     ·repeat' ((conv=>whnf);first|with_reducible apply brP_of<;>intro _|refine WpS.drawn ev_ok rfl rfl ?_|with_reducible refine And.intro (AgP.mk ⟨_,rfl,rfl⟩) ?_|refine IdxP.of (k:=1) rfl (by omega) ?_|(refine cchild ?_;rw[hch])|(refine (qfresh (c:=anc h (l+1))).use [] rfl rfl trivial ?_;rintro _ _ ⟨b,rfl,rfl⟩;refine ⟨[0],?_⟩)|(refine (ihl b .nil .nil .nil .nil 0 [] ⟨rfl,tU,tU,tU,tU⟩).use [9] rfl rfl ⟨⟨_,rfl,kp⟩,tU⟩ ?_;rintro _ _ ⟨rfl,j0,j1,j2,j3,jm,jl,rfl,jw⟩;refine ⟨[],?_⟩))
      all_goals (try conv=>whnf)
      all_goals exact ⟨rfl,[0,1,2,3,4,5],k0,(.node b (anc h (l+1)) j0 j1 j2 j3 jm jl),k2,k3,_,ls,⟨rfl,rfl,⟨⟨_,rfl,rfl⟩,⟨_,rfl,rfl⟩,⟨_,rfl,rfl⟩,⟨_,rfl,rfl⟩,⟨_,rfl,rfl⟩,⟨_,rfl,rfl⟩,tU⟩,Ent.picks _ [some 0,some 9,some 2,some 3,none,none] rfl,fun _=>rfl⟩,rfl,w0,(by rw[hch];exact jw),w2,w3⟩
     ·have hcb:cb=anc h (l+1):=w1.1.trans hch
      subst hcb
      have wk:=w1.2
      rw[hch] at wk
      repeat' ((conv=>whnf);first|with_reducible apply brP_of<;>intro _|refine WpS.drawn ev_ok rfl rfl ?_|with_reducible refine And.intro (AgP.mk ⟨_,rfl,rfl⟩) ?_|refine IdxP.of (k:=1) rfl (by omega) ?_|(refine (ihl b j0 j1 j2 j3 jm jl ⟨rfl,wk⟩).use [1] rfl rfl ⟨⟨_,rfl,kp⟩,tU⟩ ?_;rintro _ _ ⟨rfl,j0,j1,j2,j3,jm,jl,rfl,jw⟩;refine ⟨[],?_⟩))
      all_goals (try conv=>whnf)
      all_goals exact ⟨rfl,[0,1,2,3,4,5],k0,(.node b (anc h (l+1)) j0 j1 j2 j3 jm jl),k2,k3,_,ls,⟨rfl,rfl,⟨⟨_,rfl,rfl⟩,⟨_,rfl,rfl⟩,⟨_,rfl,rfl⟩,⟨_,rfl,rfl⟩,⟨_,rfl,rfl⟩,⟨_,rfl,rfl⟩,tU⟩,Ent.picks _ [some 0,some 1,some 2,some 3,none,none] rfl,fun _=>rfl⟩,rfl,w0,(by rw[hch];exact jw),w2,w3⟩
    ·rcases k2 with _|⟨b,cb,j0,j1,j2,j3,jm,jl⟩
     ·repeat' ((conv=>whnf);first|with_reducible apply brP_of<;>intro _|refine WpS.drawn ev_ok rfl rfl ?_|with_reducible refine And.intro (AgP.mk ⟨_,rfl,rfl⟩) ?_|refine IdxP.of (k:=2) rfl (by omega) ?_|(refine cchild ?_;rw[hch])|(refine (qfresh (c:=anc h (l+1))).use [] rfl rfl trivial ?_;rintro _ _ ⟨b,rfl,rfl⟩;refine ⟨[0],?_⟩)|(refine (ihl b .nil .nil .nil .nil 0 [] ⟨rfl,tU,tU,tU,tU⟩).use [9] rfl rfl ⟨⟨_,rfl,kp⟩,tU⟩ ?_;rintro _ _ ⟨rfl,j0,j1,j2,j3,jm,jl,rfl,jw⟩;refine ⟨[],?_⟩))
      all_goals (try conv=>whnf)
      all_goals exact ⟨rfl,[0,1,2,3,4,5],k0,k1,(.node b (anc h (l+1)) j0 j1 j2 j3 jm jl),k3,_,ls,⟨rfl,rfl,⟨⟨_,rfl,rfl⟩,⟨_,rfl,rfl⟩,⟨_,rfl,rfl⟩,⟨_,rfl,rfl⟩,⟨_,rfl,rfl⟩,⟨_,rfl,rfl⟩,tU⟩,Ent.picks _ [some 0,some 1,some 9,some 3,none,none] rfl,fun _=>rfl⟩,rfl,w0,w1,(by rw[hch];exact jw),w3⟩
     ·have hcb:cb=anc h (l+1):=w2.1.trans hch
      subst hcb
      have wk:=w2.2
      rw[hch] at wk
      repeat' ((conv=>whnf);first|with_reducible apply brP_of<;>intro _|refine WpS.drawn ev_ok rfl rfl ?_|with_reducible refine And.intro (AgP.mk ⟨_,rfl,rfl⟩) ?_|refine IdxP.of (k:=2) rfl (by omega) ?_|(refine (ihl b j0 j1 j2 j3 jm jl ⟨rfl,wk⟩).use [2] rfl rfl ⟨⟨_,rfl,kp⟩,tU⟩ ?_;rintro _ _ ⟨rfl,j0,j1,j2,j3,jm,jl,rfl,jw⟩;refine ⟨[],?_⟩))
      all_goals (try conv=>whnf)
      all_goals exact ⟨rfl,[0,1,2,3,4,5],k0,k1,(.node b (anc h (l+1)) j0 j1 j2 j3 jm jl),k3,_,ls,⟨rfl,rfl,⟨⟨_,rfl,rfl⟩,⟨_,rfl,rfl⟩,⟨_,rfl,rfl⟩,⟨_,rfl,rfl⟩,⟨_,rfl,rfl⟩,⟨_,rfl,rfl⟩,tU⟩,Ent.picks _ [some 0,some 1,some 2,some 3,none,none] rfl,fun _=>rfl⟩,rfl,w0,w1,(by rw[hch];exact jw),w3⟩
    ·rcases k3 with _|⟨b,cb,j0,j1,j2,j3,jm,jl⟩
     ·repeat' ((conv=>whnf);first|with_reducible apply brP_of<;>intro _|refine WpS.drawn ev_ok rfl rfl ?_|with_reducible refine And.intro (AgP.mk ⟨_,rfl,rfl⟩) ?_|refine IdxP.of (k:=3) rfl (by omega) ?_|(refine cchild ?_;rw[hch])|(refine (qfresh (c:=anc h (l+1))).use [] rfl rfl trivial ?_;rintro _ _ ⟨b,rfl,rfl⟩;refine ⟨[0],?_⟩)|(refine (ihl b .nil .nil .nil .nil 0 [] ⟨rfl,tU,tU,tU,tU⟩).use [9] rfl rfl ⟨⟨_,rfl,kp⟩,tU⟩ ?_;rintro _ _ ⟨rfl,j0,j1,j2,j3,jm,jl,rfl,jw⟩;refine ⟨[],?_⟩))
      all_goals (try conv=>whnf)
      all_goals exact ⟨rfl,[0,1,2,3,4,5],k0,k1,k2,(.node b (anc h (l+1)) j0 j1 j2 j3 jm jl),_,ls,⟨rfl,rfl,⟨⟨_,rfl,rfl⟩,⟨_,rfl,rfl⟩,⟨_,rfl,rfl⟩,⟨_,rfl,rfl⟩,⟨_,rfl,rfl⟩,⟨_,rfl,rfl⟩,tU⟩,Ent.picks _ [some 0,some 1,some 2,some 9,none,none] rfl,fun _=>rfl⟩,rfl,w0,w1,w2,(by rw[hch];exact jw)⟩
     ·have hcb:cb=anc h (l+1):=w3.1.trans hch
      subst hcb
      have wk:=w3.2
      rw[hch] at wk
      repeat' ((conv=>whnf);first|with_reducible apply brP_of<;>intro _|refine WpS.drawn ev_ok rfl rfl ?_|with_reducible refine And.intro (AgP.mk ⟨_,rfl,rfl⟩) ?_|refine IdxP.of (k:=3) rfl (by omega) ?_|(refine (ihl b j0 j1 j2 j3 jm jl ⟨rfl,wk⟩).use [3] rfl rfl ⟨⟨_,rfl,kp⟩,tU⟩ ?_;rintro _ _ ⟨rfl,j0,j1,j2,j3,jm,jl,rfl,jw⟩;refine ⟨[],?_⟩))
      all_goals (try conv=>whnf)
      all_goals exact ⟨rfl,[0,1,2,3,4,5],k0,k1,k2,(.node b (anc h (l+1)) j0 j1 j2 j3 jm jl),_,ls,⟨rfl,rfl,⟨⟨_,rfl,rfl⟩,⟨_,rfl,rfl⟩,⟨_,rfl,rfl⟩,⟨_,rfl,rfl⟩,⟨_,rfl,rfl⟩,⟨_,rfl,rfl⟩,tU⟩,Ent.picks _ [some 0,some 1,some 2,some 3,none,none] rfl,fun _=>rfl⟩,rfl,w0,w1,w2,(by rw[hch];exact jw)⟩
end Go.Proofs.YtmbdghclhpboaaaGreat
