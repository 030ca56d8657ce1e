/- Part of the proof: Rul2 Ppr2. Conditions: as each states. -/
import Derived.Test.YtmbdghclhpboaaaGreatPq29
set_option linter.all false
set_option maxRecDepth 100000
set_option maxHeartbeats 8000000
namespace Go.Proofs.YtmbdghclhpboaaaGreat
open Ev
theorem yd{κ α:Type}[DecidableEq κ]{id:κ}{r:α}{B:List (κ×α)}(h:dy id B=none):jx id r B=B++[(id,r)]:=by
 unfold jx;unfold dy at h;cases hf:jr id B 0 with
 | none=>rfl
 | some x=>rw[hf] at h;cases h
def dA(d:Dc)(v:Value):List AV:=[iA d.kind,.lit (dw d.name),iA d.n,.lit v,bA d.role.any,.lit (dw d.role.name),iA d.role.n,iA d.role.line,iA d.role.aX,iA d.lo,iA d.hi,bA d.label.any,.lit (dw d.label.name),iA d.label.n,iA d.label.line,iA d.label.aX,bA d.wh.any,.lit (dw d.wh.name),iA d.wh.n,iA d.wh.line,iA d.wh.aX,iA d.bV,iA d.line,iA d.aX]
theorem Hv{d:Dc}{c:Ck}{l:List (List UInt8×Nat)}{n:Nat}(hl:c.names d.kind=l)(ha:dy d.name l=some n):fk d c=c.ba 20 d.line d.aX:=by
 rw[lx] at ha;unfold fk;rw[hl,ha];exact if_pos rfl
theorem Hw{d:Dc}{c:Ck}{l:List (List UInt8×Nat)}(hl:c.names d.kind=l)(ha:dy d.name l=none)(h7:decide ((d.n:Int)>7)=true):fk d c=c.ba 33 d.line d.aX:=by
 have h7:=dT1 h7;rw[lx] at ha;unfold fk;rw[hl,ha,if_neg (by simp),if_pos (by omega)]
theorem Hx{d:Dc}{c:Ck}{l:List (List UInt8×Nat)}(hl:c.names d.kind=l)(ha:dy d.name l=none)(h7:decide ((d.n:Int)>7)=false):fk d c=if d.kind=1 then { c with kJ:=c.kJ++[(d.name,d.n)] } else { c with labels:=c.labels++[(d.name,d.n)] }:=by
 have h7:=dF1 h7;rw[lx] at ha;unfold fk;rw[hl,ha,if_neg (by simp),if_neg (by omega)]
theorem Np{c:Ck}{gs:List mg}{pl:List (Value×List Bx)}{rv:Value}{rs:List dc}{d:Dc}{v:Value}(hk:d.kind=1\/d.kind=2) :
  CP [] 312 [.ptr 0 0,.agg (dA d v)] (pO c gs pl rv rs) (fun u H'=>u=aQ/\∃G,H'=pO (fk d c) gs pl rv rs++G):=by
 rcases hk with hk|hk
 ·have hl:c.names d.kind=c.kJ:=by rw[hk];rfl
  unfold dA;rw[hk];refine ag aa rfl ?_;repeat' ((conv=>whnf);first|with_reducible apply af<;>intro _|refine aM.drawn aa rfl rfl ?_|with_reducible refine And.intro (aN.mk ⟨_,rfl,rfl⟩) ?_|refine al.lY _ hO fB rfl rfl rfl rfl (fun a ha=>?_) (fun ha=>?_)|refine And.intro (aN.look _ hO fB rfl rfl rfl rfl rfl (by assumption) rfl rfl) ?_|refine al.dM (key:=d.name) (a:=d.n) hO fB rfl rfl rfl rfl rfl rfl rfl rfl ?_|(refine (gj (c:=c) (gs:=gs) (pl:=pl) (rv:=rv) (rs:=rs) (e:=20) (l:=d.line) (k:=d.aX)).use [0,1,2,3,4,5,6] rfl rfl ⟨⟨_,rfl,rfl⟩,⟨_,rfl,rfl⟩,⟨_,rfl,rfl⟩,⟨_,rfl,rfl⟩,⟨_,rfl,rfl⟩,ko,ko,tU⟩ ?_;rintro _ _ ⟨rfl,G,rfl⟩;refine ⟨[],?_⟩)|(refine (gj (c:=c) (gs:=gs) (pl:=pl) (rv:=rv) (rs:=rs) (e:=33) (l:=d.line) (k:=d.aX)).use [0,1,2,3,4,5,6] rfl rfl ⟨⟨_,rfl,rfl⟩,⟨_,rfl,rfl⟩,⟨_,rfl,rfl⟩,⟨_,rfl,rfl⟩,⟨_,rfl,rfl⟩,ko,ko,tU⟩ ?_;rintro _ _ ⟨rfl,G,rfl⟩;refine ⟨[],?_⟩))
  all_goals (try conv=>whnf)
  ·rw[Hv hl ha];exact ⟨rfl,_,rfl⟩
  ·rename_i h3;rw[Hw hl ha h3];exact ⟨rfl,_,rfl⟩
  ·rename_i h3;rw[Hx hl ha h3,yd ha,if_pos hk];exact ⟨rfl,_,rfl⟩
 ·have hl:c.names d.kind=c.labels:=by rw[hk];rfl
  unfold dA;rw[hk];refine ag aa rfl ?_;repeat' ((conv=>whnf);first|with_reducible apply af<;>intro _|refine aM.drawn aa rfl rfl ?_|with_reducible refine And.intro (aN.mk ⟨_,rfl,rfl⟩) ?_|refine al.lY _ hO fB rfl rfl rfl rfl (fun a ha=>?_) (fun ha=>?_)|refine And.intro (aN.look _ hO fB rfl rfl rfl rfl rfl (by assumption) rfl rfl) ?_|refine al.dM (key:=d.name) (a:=d.n) hO fB rfl rfl rfl rfl rfl rfl rfl rfl ?_|(refine (gj (c:=c) (gs:=gs) (pl:=pl) (rv:=rv) (rs:=rs) (e:=20) (l:=d.line) (k:=d.aX)).use [0,1,2,3,4,5,6] rfl rfl ⟨⟨_,rfl,rfl⟩,⟨_,rfl,rfl⟩,⟨_,rfl,rfl⟩,⟨_,rfl,rfl⟩,⟨_,rfl,rfl⟩,ko,ko,tU⟩ ?_;rintro _ _ ⟨rfl,G,rfl⟩;refine ⟨[],?_⟩)|(refine (gj (c:=c) (gs:=gs) (pl:=pl) (rv:=rv) (rs:=rs) (e:=33) (l:=d.line) (k:=d.aX)).use [0,1,2,3,4,5,6] rfl rfl ⟨⟨_,rfl,rfl⟩,⟨_,rfl,rfl⟩,⟨_,rfl,rfl⟩,⟨_,rfl,rfl⟩,⟨_,rfl,rfl⟩,ko,ko,tU⟩ ?_;rintro _ _ ⟨rfl,G,rfl⟩;refine ⟨[],?_⟩))
  all_goals (try conv=>whnf)
  ·rw[Hv hl ha];exact ⟨rfl,_,rfl⟩
  ·rename_i h3;rw[Hw hl ha h3];exact ⟨rfl,_,rfl⟩
  ·rename_i h3;rw[Hx hl ha h3,yd ha,if_neg (by omega)];exact ⟨rfl,_,rfl⟩
theorem Pe(b:Bx):o4 b.x0 b.y0 b.x1 b.y1=ly b:=by
 unfold o4 ly;rw[decide_eq_decide];omega
theorem Bm{R:aC}{oa:Option Addr}{m:Nat}{l:List Bx}(h:cU Tryz.prog R oA 4 oa (fun b=>.agg (iy b).toArray) l)(hl:l.length<=1000000):CP [] 315 [.lit (.slice oa l.length m)] [.res R] (fun v H'=>v=bA (l.all ly)/\∃G,H'=.res R::G):=by
 refine ag aa rfl ?_;conv=>whnf
 refine aV aa rfl (fun k:Nat=>[(5,.lit (.slice oa l.length m)),(6,iA l.length),(7,iA (k:Nat))]) (fun _=>[.res R]) (fun k=>k<=l.length/\l.all ly=(l.drop k).all ly) (fun k=>l.length - k) 0 ⟨Nat.zero_le _,rfl⟩ [0] ?_ ?_
 ·exact ⟨rfl,⟨rr,rr,rr,tU⟩,⟨ko,tU⟩⟩
 ·rintro k ⟨gl,hr⟩;by_cases hk:k<l.length
  ·obtain ⟨a,rfl,bu⟩:=h.at hk;rw[List.drop_eq_getElem_cons hk,List.all_cons] at hr;conv=>whnf
   refine af (fun _=>?_) (bT hk);repeat' ((conv=>whnf);first|with_reducible apply af<;>intro _|refine al.bC aa rfl rfl rfl rfl rfl hk ?_|refine al.aR (i:=0) (v:=.agg [iA l[k].x0,iA l[k].y0,iA l[k].x1,iA l[k].y1]) rfl (fun w S hR=>bu w S hR k hk) rfl rfl ?_|refine AK ?_|refine ag aa rfl ?_)
   all_goals (try conv=>whnf)
   all_goals
    rename_i hb
    simp only[Bool.not_eq_true',Bool.not_eq_false',Bool.not_eq_eq_eq_not,Bool.not_true,Bool.not_false,Pe] at hb
    rw[hb] at hr
   ·exact ⟨k+1,[0],⟨⟨hk,by rw[hr,Bool.true_and]⟩,by omega⟩,rfl,⟨rr,rr,⟨rfl,ax rfl (ak (by omega) (by omega))⟩,tU⟩,⟨ko,tU⟩⟩
   ·exact ⟨bc (by rw[hr];rfl),_,rfl⟩
  ·obtain rfl:k=l.length:=by omega
   rw[List.drop_length] at hr;conv=>whnf
   refine af (cF hk) (fun _=>?_);conv=>whnf
   exact ⟨bc (by rw[hr];rfl),_,rfl⟩
structure fO(c c':Ck):Prop where
 a:c'.kJ=c.kJ
 b:c'.labels=c.labels
 g:c'.regions=c.regions
 r:c'.rules=c.rules
 n:c'.boxes=c.boxes
theorem fO.refl{c:Ck}:fO c c:=⟨rfl,rfl,rfl,rfl,rfl⟩
theorem dh{c:Ck}{e l k:Nat}:fO c (c.ba e l k):=by
 unfold Ck.ba;split<;>exact ⟨rfl,rfl,rfl,rfl,rfl⟩
theorem fO.trans{a b c:Ck}(h:fO a b)(k:fO b c):fO a c:=⟨k.a.trans h.a,k.b.trans h.b,k.g.trans h.g,k.r.trans h.r,k.n.trans h.n⟩
theorem uH{c:Ck}{k:Nat}{x:gw}:fO c (di k x c).2:=by
 unfold di;simp only[];repeat' split
 all_goals first|exact .refl|exact dh|exact dh.trans dh
theorem zV{c:Ck}{x:gw}:fO c (cZ x c).2:=by
 unfold cZ;repeat' split
 all_goals first|exact .refl|exact dh
theorem um{c:Ck}{b:Int}{gs:List mg}{pl:List (Value×List Bx)}{rv:Value}{rs:List dc}{e l k:Nat} :
  CP [] 416 [.ptr 0 0,iA e,.agg [iA l,iA k]] (uV c b gs pl rv rs) (fun v H'=>v=aQ/\∃c',c'=c.ba e l k/\fO c c'/\∃G,H'=uV c' b gs pl rv rs++G):=
 aj.mono HE fun v H' h=>⟨h.1,_,rfl,dh,h.2⟩
theorem Aw{c:Ck}{gs:List mg}{pl:List (Value×List Bx)}{rv:Value}{rs:List dc}{k:Nat}{x:gw}{b:Int}(hk:k=1\/k=2)(hb:b=c.boxes) :
  CP [] 417 [.ptr 0 0,iA k,.agg (wA x)] (uV c b gs pl rv rs) (fun v H'=>∃n c',di k x c=(n,c')/\fO c c'/\v=iA (n:Nat)/\∃G,H'=uV c' b gs pl rv rs++G):=by
 subst hb;exact aj.mono (Wl hk) fun v H' h=>⟨_,_,rfl,uH,h.1,by rw[<-uH.n];exact h.2⟩
theorem Fx{c:Ck}{gs:List mg}{pl:List (Value×List Bx)}{x:gw}(hg:AM c gs pl):(cZ x c).1.length<=1000000:=by
 unfold cZ;split
 ·exact Nat.le_add_left 1 999999
 ·cases ha:assoc c.regions x.name with
  | none=>exact Nat.zero_le _
  | some l=>
    rw[hg.Jk,vQ] at ha;cases hf:gs.find? fun g=>decide (x.name=g.n) with
    | none=>rw[hf] at ha;cases ha
    | some g=>
      rw[hf] at ha;obtain ⟨_,_,h3,_⟩:=hg.PH g (List.mem_of_find?_eq_some hf);have e:g.l=l:=Option.some.inj ha;rw[<-e];exact h3
theorem D4{c:Ck}{gs:List mg}{pl:List (Value×List Bx)}{rv:Value}{rs:List dc}{x:gw}{b:Int}(hg:AM c gs pl)(hb:b=c.boxes) :
  CP [] 418 [.ptr 0 0,.agg (wA x)] (uV c b gs pl rv rs) (fun v H'=>∃l c' A m eY,cZ x c=(l,c')/\fO c c'/\v=.lit (.slice A l.length m)/\(∀p∈pl,p∈eY)/\(l=[]->(.slice A l.length m)=aD)/\(l≠[]->((.slice A l.length m),l)∈eY)/\l.length<=1000000/\∃G,H'=uV c' b gs eY rv rs++G):=by
 subst hb;refine aj.mono (Pm hg) ?_;rintro v H' ⟨V,eY,rfl,hv,h1,h2,G,rfl⟩;have hl:=Fx (x:=x) hg;have hs:=zV (c:=c) (x:=x);revert hv h2 hl hs;generalize cZ x c=q;obtain ⟨l,c'⟩:=q;intro hv h2 hl hs;rcases hv with ⟨rfl,h0⟩|⟨aP,a,m,rfl⟩
 ·simp only[] at h0;subst h0;exact ⟨[],c',none,0,eY,rfl,hs,rfl,h1,fun _=>rfl,fun h=>absurd rfl h,Nat.zero_le _,G,by rw[<-hs.n];rfl⟩
 ·exact ⟨l,c',some a,m,eY,rfl,hs,rfl,h1,fun h=>absurd h aP,h2,hl,G,by rw[<-hs.n];rfl⟩
theorem uE:∀(y:dc),∀u∈fg y,u.oneCell'=true:=fun y u hu=>by
 simp only[fg,List.mem_cons,List.not_mem_nil,or_false] at hu;rcases hu with rfl|rfl|rfl|rfl|rfl|rfl|rfl<;>rfl
def u7(pl:List (Value×List Bx))(y:dc):Prop:=(y.x.boxes=[]->y.v=aD)/\(y.x.boxes≠[]->(y.v,y.x.boxes)∈pl)/\y.x.boxes.length<=1000000
theorem u7.more{pl eY:List (Value×List Bx)}{y:dc}(h:u7 pl y)(hs:∀p∈pl,p∈eY):u7 eY y:=⟨h.1,fun k=>hs _ (h.2.1 k),h.2.2⟩
structure Dn(c:Ck)(gs:List mg)(pl:List (Value×List Bx))(rv:Value)(rs:List dc):Prop where
 g:AM c gs pl
 r:c.rules=rs.map dc.x
 b:∀y∈rs,u7 pl y
 v:(rv=aD/\rs=[])\/∃A m,rv=.slice (some A) rs.length m
theorem AM.more{c c':Ck}{gs:List mg}{pl eY:List (Value×List Bx)}(h:AM c gs pl)(e:c'.regions=c.regions)(hs:∀p∈pl,p∈eY):AM c' gs eY:=
 ⟨by rw[e];exact h.Jk,fun g hg=>⟨hs _ (h.PH g hg).1,(h.PH g hg).2⟩⟩
theorem uF{v:Value}{l:List dc}(w:World)(S:Nat->Prop)(h:(aA fg 7 gu v l).at_ w S):bD [aA fg 7 gu v l,aB] w S:=
 ⟨S,fun _=>False,h,⟨fun _=>False,fun _=>False,fun _ h=>h,fun _ h=>h,fun _ h _=>h,fun b=>by simp⟩,fun _ _ h=>h,fun b=>by simp⟩
theorem xL{v:Value}{l:List dc}(w:World)(S:Nat->Prop)(h:bD [aA fg 7 gu v l,aB] w S):(aA fg 7 gu v l).at_ w S:=by
 obtain ⟨S1,S2,h1,⟨T1,T2,k1,k2,_,sg⟩,_,hS⟩:=h;refine ⟨h1.1,fun b=>?_⟩;rw[hS b,sg b];have e1:=h1.2 b;have e2:=k1 b;have e3:=k2 b;simp only[e2,e3,or_false];exact e1
theorem wE{c:Ck}{n e l k:Nat}:({ c with boxes:=n }:Ck).ba e l k={ c.ba e l k with boxes:=n }:=by
 unfold Ck.ba;simp only[];split<;>rfl
theorem vd{c c0 c1:Ck}{d:Dc}{n1:Nat}(h6:d.kind=6)(e0:(if c.rules.length=32 then c.ba 2 d.line d.aX else c)=c0)(e1:di 1 d.role c0=(n1,c1)) :
  il d c={ c1 with rules:=c1.rules++[⟨d.kind,n1,0,0,0,[],0⟩] }:=by
 subst e0;unfold il;simp only[];rw[if_pos h6,e1,h6]
theorem vf{c c0 c1 c2 c3 c4 c5 c6:Ck}{d:Dc}{n n1 n2:Nat}{l2:List Bx}(h6:d.kind≠6)(e0:(if c.rules.length=32 then c.ba 2 d.line d.aX else c)=c0)(e1:di 1 d.role c0=(n1,c1))
  (e2:(if d.hi<d.lo\/7<d.hi then c1.ba 33 d.line d.aX else c1)=c2) (e3:di 2 d.label c2=(n2,c3)) (e4:cZ d.wh c3=(l2,c4)) (hn:c4.boxes=n) (e5:(if 32<n+l2.length then c4.ba 2 d.line d.aX else c4)=c5) (e6:(if 16<d.bV then c5.ba 33 d.line d.aX else c5)=c6) :
  il d c={ c6 with boxes:=n+l2.length,rules:=c6.rules++[⟨d.kind,n1,d.lo,d.hi,n2,l2,d.bV⟩] }:=by
 subst hn e0 e2 e5 e6;unfold il;simp only[];rw[if_neg h6,e1];simp only[];rw[e3];simp only[];rw[e4];simp only[];by_cases h5:32<c4.boxes+l2.length
 ·by_cases hz:16<d.bV
  ·simp only[if_pos h5,if_pos hz,wE]
  ·simp only[if_pos h5,if_neg hz,wE]
 ·by_cases hz:16<d.bV
  ·simp only[if_neg h5,if_pos hz,wE]
  ·simp only[if_neg h5,if_neg hz]
theorem AG{c cR:Ck}{gs:List mg}{pl Ld:List (Value×List Bx)}{rs:List dc}{y:dc}{A3:Addr}{m3:Nat}(hg:AM c gs pl)(hr:c.rules=rs.map dc.x)(BY:∀y∈rs,u7 pl y)(nX:∀p∈pl,p∈Ld)(h1:cR.regions=c.regions)(h2:cR.rules=c.rules++[y.x])(hy:u7 Ld y) :
  Dn cR gs Ld (.slice (some A3) (rs.length+1) m3) (rs++[y]):=
 ⟨hg.more h1 nX,by rw[h2,hr];simp,fun z hz=>by
  rcases List.mem_append.1 hz with h|h
  ·exact (BY z h).more nX
  ·rw[List.mem_singleton.1 h];exact hy,.inr ⟨A3,m3,by simp⟩⟩
theorem Pj{c:Ck}{gs:List mg}{pl:List (Value×List Bx)}{rv:Value}{rs:List dc}{d:Dc}{v:Value}{c':Ck}{b:Int}(hi:Dn c gs pl rv rs)(lI:c.rules.length<=32)(hb:c.boxes<=32)(h0:c=c')(gK:fO c c')(iE:b=c.boxes) :
  CP [] 311 [.ptr 0 0,.agg (dA d v)] (uV c' b gs pl rv rs) (fun u H'=>u=aQ/\∃eY Ah Af,Dn (il d c) gs eY Ah Af/\∃G,H'=pO (il d c) gs eY Ah Af++G):=by
 obtain ⟨hg,hr,BY,hv⟩:=hi;have II:rs.length<=32:=by rw[hr,List.length_map] at lI;exact lI
 clear lI;rcases hv with ⟨rfl,rfl⟩|⟨A,m,rfl⟩
 ·refine ag aa rfl ?_;repeat' ((conv=>whnf);first|with_reducible apply af<;>intro _|refine aM.drawn aa rfl rfl ?_|with_reducible refine And.intro (aN.mk ⟨_,rfl,rfl⟩) ?_|(refine (um (c:=c') (b:=_) (gs:=gs) (pl:=_) (rv:=aD) (rs:=[]) (e:=2) (l:=d.line) (k:=d.aX)).use [0,1,2,3,4,5,6] rfl rfl ⟨⟨_,rfl,rfl⟩,⟨_,rfl,rfl⟩,⟨_,rfl,rfl⟩,⟨_,rfl,rfl⟩,⟨_,rfl,rfl⟩,ko,ko,tU⟩ ?_;rintro _ _ ⟨rfl,c',yp,re,G,rfl⟩;replace gK:=gK.trans re;refine ⟨[],?_⟩)|(refine (um (c:=c') (b:=_) (gs:=gs) (pl:=_) (rv:=aD) (rs:=[]) (e:=33) (l:=d.line) (k:=d.aX)).use [0,1,2,3,4,5,6] rfl rfl ⟨⟨_,rfl,rfl⟩,⟨_,rfl,rfl⟩,⟨_,rfl,rfl⟩,⟨_,rfl,rfl⟩,⟨_,rfl,rfl⟩,ko,ko,tU⟩ ?_;rintro _ _ ⟨rfl,c',yp,re,G,rfl⟩;replace gK:=gK.trans re;refine ⟨[],?_⟩)|(refine (Aw (c:=c') (b:=b) (gs:=gs) (pl:=pl) (rv:=aD) (rs:=[]) (k:=1) (x:=d.role) (by omega) (by rw[gK.n];exact iE)).use [0,1,2,3,4,5,6] rfl rfl ⟨⟨_,rfl,rfl⟩,⟨_,rfl,rfl⟩,⟨_,rfl,rfl⟩,⟨_,rfl,rfl⟩,⟨_,rfl,rfl⟩,ko,ko,tU⟩ ?_;rintro _ _ ⟨n1,c',mN,re,rfl,G,rfl⟩;replace gK:=gK.trans re;refine ⟨[],?_⟩)|(refine (Aw (c:=c') (b:=b) (gs:=gs) (pl:=pl) (rv:=aD) (rs:=[]) (k:=2) (x:=d.label) (by omega) (by rw[gK.n];exact iE)).use [0,1,2,3,4,5,6] rfl rfl ⟨⟨_,rfl,rfl⟩,⟨_,rfl,rfl⟩,⟨_,rfl,rfl⟩,⟨_,rfl,rfl⟩,⟨_,rfl,rfl⟩,ko,ko,tU⟩ ?_;rintro _ _ ⟨n2,c',oU,re,rfl,G,rfl⟩;replace gK:=gK.trans re;refine ⟨[],?_⟩)|(refine (D4 (c:=c') (b:=b) (gs:=gs) (pl:=pl) (rv:=aD) (rs:=[]) (x:=d.wh) (hg.more gK.g fun _ h=>h) (by rw[gK.n];exact iE)).use [0,1,2,3,4,5,6] rfl rfl ⟨⟨_,rfl,rfl⟩,⟨_,rfl,rfl⟩,⟨_,rfl,rfl⟩,⟨_,rfl,rfl⟩,⟨_,rfl,rfl⟩,ko,ko,tU⟩ ?_;rintro _ _ ⟨l2,c',A2,m2,Ld,XA,re,rfl,nX,Tu,iX,hJ,G,rfl⟩;replace gK:=gK.trans re;refine ⟨[],?_⟩)|(refine dx.om (eH.iw aa uf nG (by decide) uE (i:=6) (y:=⟨⟨d.kind,n1,0,0,0,[],0⟩,none,0⟩) (l:=[]) (v:=aD) (R1:=aB) (R':=fun v'=>aA fg 7 gu v' ([]++[⟨⟨d.kind,n1,0,0,0,[],0⟩,none,0⟩])) rfl rfl rfl rfl rfl rfl rfl uF (fun v'=>xL) (by decide) ?_);intro A3 m3)|(refine dx.om (eH.iw aa uf nG (by decide) uE (i:=6) (y:=⟨⟨d.kind,n1,d.lo,d.hi,n2,l2,d.bV⟩,A2,m2⟩) (l:=[]) (v:=aD) (R1:=aB) (R':=fun v'=>aA fg 7 gu v' ([]++[⟨⟨d.kind,n1,d.lo,d.hi,n2,l2,d.bV⟩,A2,m2⟩])) rfl rfl rfl rfl rfl rfl rfl uF (fun v'=>xL) (by decide) ?_);intro A3 m3))
  all_goals (try conv=>whnf)
  all_goals
   refine ⟨rfl,?_⟩
   subst h0
   subst iE
   simp only[decide_eq_true_eq,decide_eq_false_iff_not,beq_iff_eq,beq_eq_false_iff_ne] at *
   subst_vars
   first
    | (have hR:=vd (d:=d) (c:=c) (by omega) (by first|(refine if_neg ?_;rw[hr];simp;done)|(refine if_neg ?_;rw[hr,List.length_map];omega)|(refine if_pos ?_;rw[hr,List.length_map];omega)) mN
       refine ⟨pl,_,_,AG (A3:=A3) (m3:=m3) (y:=⟨⟨d.kind,n1,0,0,0,[],0⟩,none,0⟩) hg hr BY (fun _ h=>h) (by rw[hR];exact gK.g) (by rw[hR];exact congrArg (·++_) gK.r) ⟨fun _=>rfl,fun h=>absurd rfl h,Nat.zero_le _⟩,?_⟩
       rw[hR,<-gK.n]
       exact ⟨_,rfl⟩)
    | (have hW:IntKind.i64.wrap (↑c.boxes+↑l2.length)=((c.boxes+l2.length:Nat):Int):=(ak (by omega) (by omega)).trans (by omega)
       have hR:=vf (d:=d) (c:=c) (n:=c.boxes) (by omega) (by first|(refine if_neg ?_;rw[hr];simp;done)|(refine if_neg ?_;rw[hr,List.length_map];omega)|(refine if_pos ?_;rw[hr,List.length_map];omega)) mN (by first|(refine if_neg ?_;omega)|(refine if_pos ?_;omega)) oU XA (by first|exact gK.n|(have e:=gK.n;rw[gi] at e;exact e)|(have e:=gK.n;rw[gi,gi] at e;exact e)) (by first|(refine if_neg ?_;omega)|(refine if_pos ?_;omega)) (by first|(refine if_neg ?_;omega)|(refine if_pos ?_;omega))
       refine ⟨Ld,_,_,AG (A3:=A3) (m3:=m3) (y:=⟨⟨d.kind,n1,d.lo,d.hi,n2,l2,d.bV⟩,A2,m2⟩) hg hr BY nX (by rw[hR];exact gK.g) (by rw[hR];exact congrArg (·++_) gK.r) ⟨Tu,iX,hJ⟩,?_⟩
       rw[hR,hW]
       exact ⟨_,rfl⟩)
 ·refine ag aa rfl ?_;repeat' ((conv=>whnf);first|with_reducible apply af<;>intro _|refine aM.drawn aa rfl rfl ?_|with_reducible refine And.intro (aN.mk ⟨_,rfl,rfl⟩) ?_|(refine (um (c:=c') (b:=_) (gs:=gs) (pl:=_) (rv:=(.slice (some A) rs.length m)) (rs:=rs) (e:=2) (l:=d.line) (k:=d.aX)).use [0,1,2,3,4,5,6] rfl rfl ⟨⟨_,rfl,rfl⟩,⟨_,rfl,rfl⟩,⟨_,rfl,rfl⟩,⟨_,rfl,rfl⟩,⟨_,rfl,rfl⟩,ko,ko,tU⟩ ?_;rintro _ _ ⟨rfl,c',yp,re,G,rfl⟩;replace gK:=gK.trans re;refine ⟨[],?_⟩)|(refine (um (c:=c') (b:=_) (gs:=gs) (pl:=_) (rv:=(.slice (some A) rs.length m)) (rs:=rs) (e:=33) (l:=d.line) (k:=d.aX)).use [0,1,2,3,4,5,6] rfl rfl ⟨⟨_,rfl,rfl⟩,⟨_,rfl,rfl⟩,⟨_,rfl,rfl⟩,⟨_,rfl,rfl⟩,⟨_,rfl,rfl⟩,ko,ko,tU⟩ ?_;rintro _ _ ⟨rfl,c',yp,re,G,rfl⟩;replace gK:=gK.trans re;refine ⟨[],?_⟩)|(refine (Aw (c:=c') (b:=b) (gs:=gs) (pl:=pl) (rv:=(.slice (some A) rs.length m)) (rs:=rs) (k:=1) (x:=d.role) (by omega) (by rw[gK.n];exact iE)).use [0,1,2,3,4,5,6] rfl rfl ⟨⟨_,rfl,rfl⟩,⟨_,rfl,rfl⟩,⟨_,rfl,rfl⟩,⟨_,rfl,rfl⟩,⟨_,rfl,rfl⟩,ko,ko,tU⟩ ?_;rintro _ _ ⟨n1,c',mN,re,rfl,G,rfl⟩;replace gK:=gK.trans re;refine ⟨[],?_⟩)|(refine (Aw (c:=c') (b:=b) (gs:=gs) (pl:=pl) (rv:=(.slice (some A) rs.length m)) (rs:=rs) (k:=2) (x:=d.label) (by omega) (by rw[gK.n];exact iE)).use [0,1,2,3,4,5,6] rfl rfl ⟨⟨_,rfl,rfl⟩,⟨_,rfl,rfl⟩,⟨_,rfl,rfl⟩,⟨_,rfl,rfl⟩,⟨_,rfl,rfl⟩,ko,ko,tU⟩ ?_;rintro _ _ ⟨n2,c',oU,re,rfl,G,rfl⟩;replace gK:=gK.trans re;refine ⟨[],?_⟩)|(refine (D4 (c:=c') (b:=b) (gs:=gs) (pl:=pl) (rv:=(.slice (some A) rs.length m)) (rs:=rs) (x:=d.wh) (hg.more gK.g fun _ h=>h) (by rw[gK.n];exact iE)).use [0,1,2,3,4,5,6] rfl rfl ⟨⟨_,rfl,rfl⟩,⟨_,rfl,rfl⟩,⟨_,rfl,rfl⟩,⟨_,rfl,rfl⟩,⟨_,rfl,rfl⟩,ko,ko,tU⟩ ?_;rintro _ _ ⟨l2,c',A2,m2,Ld,XA,re,rfl,nX,Tu,iX,hJ,G,rfl⟩;replace gK:=gK.trans re;refine ⟨[],?_⟩)|(refine al.om (eH.iw aa uf nG (by decide) uE (i:=6) (y:=⟨⟨d.kind,n1,0,0,0,[],0⟩,none,0⟩) (l:=rs) (v:=(.slice (some A) rs.length m)) (R1:=aB) (R':=fun v'=>aA fg 7 gu v' (rs++[⟨⟨d.kind,n1,0,0,0,[],0⟩,none,0⟩])) rfl rfl rfl rfl rfl rfl rfl uF (fun v'=>xL) (by omega) ?_);intro A3 m3)|(refine al.om (eH.iw aa uf nG (by decide) uE (i:=6) (y:=⟨⟨d.kind,n1,d.lo,d.hi,n2,l2,d.bV⟩,A2,m2⟩) (l:=rs) (v:=(.slice (some A) rs.length m)) (R1:=aB) (R':=fun v'=>aA fg 7 gu v' (rs++[⟨⟨d.kind,n1,d.lo,d.hi,n2,l2,d.bV⟩,A2,m2⟩])) rfl rfl rfl rfl rfl rfl rfl uF (fun v'=>xL) (by omega) ?_);intro A3 m3))
  all_goals (try conv=>whnf)
  all_goals
   refine ⟨rfl,?_⟩
   subst h0
   subst iE
   simp only[decide_eq_true_eq,decide_eq_false_iff_not,beq_iff_eq,beq_eq_false_iff_ne] at *
   subst_vars
   first
    | (have hR:=vd (d:=d) (c:=c) (by omega) (by first|(refine if_neg ?_;rw[hr];simp;done)|(refine if_neg ?_;rw[hr,List.length_map];omega)|(refine if_pos ?_;rw[hr,List.length_map];omega)) mN
       refine ⟨pl,_,_,AG (A3:=A3) (m3:=m3) (y:=⟨⟨d.kind,n1,0,0,0,[],0⟩,none,0⟩) hg hr BY (fun _ h=>h) (by rw[hR];exact gK.g) (by rw[hR];exact congrArg (·++_) gK.r) ⟨fun _=>rfl,fun h=>absurd rfl h,Nat.zero_le _⟩,?_⟩
       rw[hR,<-gK.n]
       exact ⟨_,rfl⟩)
    | (have hW:IntKind.i64.wrap (↑c.boxes+↑l2.length)=((c.boxes+l2.length:Nat):Int):=(ak (by omega) (by omega)).trans (by omega)
       have hR:=vf (d:=d) (c:=c) (n:=c.boxes) (by omega) (by first|(refine if_neg ?_;rw[hr];simp;done)|(refine if_neg ?_;rw[hr,List.length_map];omega)|(refine if_pos ?_;rw[hr,List.length_map];omega)) mN (by first|(refine if_neg ?_;omega)|(refine if_pos ?_;omega)) oU XA (by first|exact gK.n|(have e:=gK.n;rw[gi] at e;exact e)|(have e:=gK.n;rw[gi,gi] at e;exact e)) (by first|(refine if_neg ?_;omega)|(refine if_pos ?_;omega)) (by first|(refine if_neg ?_;omega)|(refine if_pos ?_;omega))
       refine ⟨Ld,_,_,AG (A3:=A3) (m3:=m3) (y:=⟨⟨d.kind,n1,d.lo,d.hi,n2,l2,d.bV⟩,A2,m2⟩) hg hr BY nX (by rw[hR];exact gK.g) (by rw[hR];exact congrArg (·++_) gK.r) ⟨Tu,iX,hJ⟩,?_⟩
       rw[hR,hW]
       exact ⟨_,rfl⟩)
section
variable{R:aC}{A:Option Addr}{m:Nat}{L:List Tk}{e:Nat×Nat}{p:Pr}
abbrev jd:TypeId:=175
theorem MB{d:Dc}{v:Value}(hT:iu R A L)(hs:Sf L p):CP [] 305 [.ptr 0 0,.ptr 1 0] [dX A m L e p,.cells (dA d v) jd,.res R] (fun u H'=>u=aQ/\∃G,H'=dX A m L e (gf e d p).2::.cells (dA (gf e d p).1 v) jd::.res R::G):=by
 have h1:=Gn (m:=m) (e:=e) hT hs;have h2:=l9 (m:=m) (e:=e) (s:=[61]) hT (hs.name e);have h3:=xD (m:=m) (e:=e) hT ((hs.name e).want e [61]);unfold gf;simp only[];obtain ⟨a,ha⟩:∃a,a=gN e p:=⟨_,rfl⟩;rw[<-ha] at h1 h2 h3 ⊢;obtain ⟨q,hq⟩:∃q,q=a.2.want e [61]:=⟨_,rfl⟩;rw[<-hq] at h2 h3 ⊢;obtain ⟨b,hb⟩:∃b,b=fW e q:=⟨_,rfl⟩;rw[<-hb] at h3 ⊢;clear ha hq hb;refine ag aa rfl ?_;repeat' ((conv=>whnf);first|with_reducible apply af<;>intro _|(refine h1.use [0,2] rfl rfl ⟨⟨_,rfl,rfl⟩,ko,tU⟩ ?_;rintro _ _ ⟨rfl,G,rfl⟩;refine ⟨[],?_⟩)|(refine h2.use [0,2] rfl rfl ⟨⟨_,rfl,rfl⟩,ko,tU⟩ ?_;rintro _ _ ⟨rfl,G,rfl⟩;refine ⟨[],?_⟩)|(refine h3.use [0,2] rfl rfl ⟨⟨_,rfl,rfl⟩,ko,tU⟩ ?_;rintro _ _ ⟨rfl,G,rfl⟩;refine ⟨[],?_⟩))
 all_goals (try conv=>whnf)
 exact ⟨rfl,_,rfl⟩
theorem MA{d:Dc}{v:Value}(hT:iu R A L)(hs:Sf L p):CP [] 307 [.ptr 0 0,.ptr 1 0] [dX A m L e p,.cells (dA d v) jd,.res R] (fun u H'=>u=aQ/\∃G,H'=dX A m L e (eS e d p).2::.cells (dA (eS e d p).1 v) jd::.res R::G):=by
 have h1:=l9 (m:=m) (e:=e) (s:=cd) hT hs;have h2:=VM (m:=m) (e:=e) hT (hs.want e cd);unfold eS;simp only[];obtain ⟨q,hq⟩:∃q,q=p.want e cd:=⟨_,rfl⟩;rw[<-hq] at h1 h2 ⊢;obtain ⟨b,hb⟩:∃b,b=iT e q:=⟨_,rfl⟩;rw[<-hb] at h2 ⊢;clear hq hb;refine ag aa rfl ?_;repeat' ((conv=>whnf);first|with_reducible apply af<;>intro _|(refine h1.use [0,2] rfl rfl ⟨⟨_,rfl,rfl⟩,ko,tU⟩ ?_;rintro _ _ ⟨rfl,G,rfl⟩;refine ⟨[],?_⟩)|(refine h2.use [0,2] rfl rfl ⟨⟨_,rfl,rfl⟩,ko,tU⟩ ?_;rintro _ _ ⟨rfl,G,rfl⟩;refine ⟨[],?_⟩))
 all_goals (try conv=>whnf)
 exact ⟨rfl,_,rfl⟩
theorem Sf.Fz{d:Dc}(h:Sf L p)(e:Nat×Nat):Sf L (eS e d p).2:=(h.want e cd).Yv e
theorem Lh{d:Dc}{v:Value}(hT:iu R A L)(hs:Sf L p):CP [] 303 [.ptr 0 0,.ptr 1 0] [dX A m L e p,.cells (dA d v) jd,.res R] (fun u H'=>u=aQ/\∃G,H'=dX A m L e (dJ e d p).2::.cells (dA (dJ e d p).1 v) jd::.res R::G):=by
 have s1:Sf L (eS e d p).2:=hs.Fz e;have h1:=MA (m:=m) (e:=e) (d:=d) (v:=v) hT hs;have h2:=l9 (m:=m) (e:=e) (s:=rN) hT s1;have h3:=Uh (m:=m) (e:=e) hT (s1.want e rN);have s2:=(s1.want e rN).St e;have h4:=l9 (m:=m) (e:=e) (s:=bU) hT s2;have h5:=VM (m:=m) (e:=e) hT (s2.want e bU);have s3:=(s2.want e bU).Yv e;have h6:=l9 (m:=m) (e:=e) (s:=GJ) hT s3;have h7:=Ui (m:=m) (e:=e) hT (s3.want e GJ);have s4:=(s3.want e GJ).where e;have h8:=l9 (m:=m) (e:=e) (s:=ua) hT s4;have h9:=xD (m:=m) (e:=e) hT (s4.want e ua);unfold dJ;simp only[];clear s1 s2 s3 s4;have hc:eS e d p=({ d with role:=(iT e (p.want e cd)).1 },(iT e (p.want e cd)).2):=rfl;rw[hc] at h1 h2 h3 h4 h5 h6 h7 h8 h9 ⊢;clear hc;simp only[] at h1 h2 h3 h4 h5 h6 h7 h8 h9 ⊢;obtain ⟨a,ha⟩:∃a,a=iT e (p.want e cd):=⟨_,rfl⟩;rw[<-ha] at h1 h2 h3 h4 h5 h6 h7 h8 h9 ⊢;obtain ⟨q1,yw⟩:∃q,q=a.2.want e rN:=⟨_,rfl⟩;rw[<-yw] at h2 h3 h4 h5 h6 h7 h8 h9 ⊢;obtain ⟨t,ht⟩:∃t,t=gI e q1:=⟨_,rfl⟩;rw[<-ht] at h3 h4 h5 h6 h7 h8 h9 ⊢;obtain ⟨q2,sj⟩:∃q,q=t.2.2.want e bU:=⟨_,rfl⟩;rw[<-sj] at h4 h5 h6 h7 h8 h9 ⊢;obtain ⟨l,hl⟩:∃l,l=iT e q2:=⟨_,rfl⟩;rw[<-hl] at h5 h6 h7 h8 h9 ⊢;obtain ⟨q3,IH⟩:∃q,q=l.2.want e GJ:=⟨_,rfl⟩;rw[<-IH] at h6 h7 h8 h9 ⊢;obtain ⟨r,hr⟩:∃r,r=gJ e q3:=⟨_,rfl⟩;rw[<-hr] at h7 h8 h9 ⊢;obtain ⟨q4,Z7⟩:∃q,q=r.2.want e ua:=⟨_,rfl⟩;rw[<-Z7] at h8 h9 ⊢;obtain ⟨z,hz⟩:∃z,z=fW e q4:=⟨_,rfl⟩;rw[<-hz] at h9 ⊢;clear ha yw ht sj hl IH hr Z7 hz;refine ag aa rfl ?_;refine eX.of rfl rfl ?_;refine aI.az fun F hF=>?_;repeat' ((conv=>whnf);first|with_reducible apply af<;>intro _|(show F _ _ _;subst hF;refine aI.az fun F hF=>?_)|(show F _ _ _;subst hF)|(refine h1.use [0,1,2] rfl rfl ⟨⟨_,rfl,rfl⟩,⟨_,rfl,rfl⟩,ko,tU⟩ ?_;rintro _ _ ⟨rfl,G,rfl⟩;refine ⟨[],?_⟩)|(refine h2.use [0,2] rfl rfl ⟨⟨_,rfl,rfl⟩,ko,tU⟩ ?_;rintro _ _ ⟨rfl,G,rfl⟩;refine ⟨[],?_⟩)|(refine h3.use [0,2] rfl rfl ⟨⟨_,rfl,rfl⟩,ko,tU⟩ ?_;rintro _ _ ⟨rfl,G,rfl⟩;refine ⟨[],?_⟩)|(refine h4.use [0,2] rfl rfl ⟨⟨_,rfl,rfl⟩,ko,tU⟩ ?_;rintro _ _ ⟨rfl,G,rfl⟩;refine ⟨[],?_⟩)|(refine h5.use [0,2] rfl rfl ⟨⟨_,rfl,rfl⟩,ko,tU⟩ ?_;rintro _ _ ⟨rfl,G,rfl⟩;refine ⟨[],?_⟩)|(refine h6.use [0,2] rfl rfl ⟨⟨_,rfl,rfl⟩,ko,tU⟩ ?_;rintro _ _ ⟨rfl,G,rfl⟩;refine ⟨[],?_⟩)|(refine h7.use [0,2] rfl rfl ⟨⟨_,rfl,rfl⟩,ko,tU⟩ ?_;rintro _ _ ⟨rfl,G,rfl⟩;refine ⟨[],?_⟩)|(refine h8.use [0,2] rfl rfl ⟨⟨_,rfl,rfl⟩,ko,tU⟩ ?_;rintro _ _ ⟨rfl,G,rfl⟩;refine ⟨[],?_⟩)|(refine h9.use [0,2] rfl rfl ⟨⟨_,rfl,rfl⟩,ko,tU⟩ ?_;rintro _ _ ⟨rfl,G,rfl⟩;refine ⟨[],?_⟩))
 all_goals (try conv=>whnf)
 exact ⟨rfl,_,rfl⟩
theorem Sf.boxes(h:Sf L p)(e:Nat×Nat):Sf L (bF e p).2:=by
 have:∀(k:Nat) (p:Pr) (out:List Bx),Sf L p->Sf L (fT e k p out).2:=fun k=>by
  induction k with
  | zero=>intro p out h;exact h
  | succ k ih=>
    intro p out h;unfold fT;split
    ·exact ih _ _ (h.on.box e)
    ·exact h
 exact this _ _ _ (h.box e)
theorem Rp{d:Dc}{v:Value}{pl:List (Value×List Bx)}(hT:iu R A L)(hs:Sf L p):CP [] 306 [.ptr 0 0,.ptr 1 0] [dX A m L e p,.cells (dA d v) jd,.res R,.res (aF pl)] (fun u H'=>u=aQ/\∃a k,a.spot=none/\(eT e d p).1.boxes≠[]/\∃G,H'=dX A m L e (eT e d p).2::.cells (dA (eT e d p).1 (.slice (some a) (eT e d p).1.boxes.length k)) jd::.res R::.res (aF (pl++[(.slice (some a) (eT e d p).1.boxes.length k,(eT e d p).1.boxes)]))::G):=by
 have h1:=Gn (m:=m) (e:=e) hT hs;have h2:=l9 (m:=m) (e:=e) (s:=[61]) hT (hs.name e);have h3:=TZ (m:=m) (e:=e) (pl:=pl) hT ((hs.name e).want e [61]);unfold eT;simp only[];obtain ⟨a,ha⟩:∃a,a=gN e p:=⟨_,rfl⟩;rw[<-ha] at h1 h2 h3 ⊢;obtain ⟨q,hq⟩:∃q,q=a.2.want e [61]:=⟨_,rfl⟩;rw[<-hq] at h2 h3 ⊢;obtain ⟨b,hb⟩:∃b,b=bF e q:=⟨_,rfl⟩;rw[<-hb] at h3 ⊢;clear ha hq hb;refine ag aa rfl ?_;repeat' ((conv=>whnf);first|with_reducible apply af<;>intro _|(refine h1.use [0,2] rfl rfl ⟨⟨_,rfl,rfl⟩,ko,tU⟩ ?_;rintro _ _ ⟨rfl,G,rfl⟩;refine ⟨[],?_⟩)|(refine h2.use [0,2] rfl rfl ⟨⟨_,rfl,rfl⟩,ko,tU⟩ ?_;rintro _ _ ⟨rfl,G,rfl⟩;refine ⟨[],?_⟩)|(refine h3.use [0,2,3] rfl rfl ⟨⟨_,rfl,rfl⟩,ko,ko,tU⟩ ?_;rintro _ _ ⟨a,k,lK,rfl,aP,G,rfl⟩;refine ⟨[],?_⟩))
 all_goals (try conv=>whnf)
 exact ⟨rfl,_,_,lK,aP,_,rfl⟩
end
