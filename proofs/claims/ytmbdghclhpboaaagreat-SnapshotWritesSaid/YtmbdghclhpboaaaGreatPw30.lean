/- Part of the proof: Rul2 Ppr2. Conditions: as each states. -/
import Derived.Test.YtmbdghclhpboaaaGreatPw29
set_option linter.all false
set_option maxRecDepth 100000
set_option maxHeartbeats 8000000
namespace Go.Proofs.YtmbdghclhpboaaaGreat
open Ev
theorem xg{κ α:Type}[DecidableEq κ]{id:κ}{r:α}{B:List (κ×α)}(h:cV id B=none):iR id r B=B++[(id,r)]:=by
 unfold iR;unfold cV at h;cases hf:iM id B 0 with
 | none=>rfl
 | some x=>rw[hf] at h;cases h
def dA(d:Dc)(v:Value):List AV:=[iA d.kind,.lit (cU d.name),iA d.n,.lit v,bA d.role.any,.lit (cU d.role.name),iA d.role.n,iA d.role.line,iA d.role.aS,iA d.lo,iA d.hi,bA d.label.any,.lit (cU d.label.name),iA d.label.n,iA d.label.line,iA d.label.aS,bA d.wh.any,.lit (cU d.wh.name),iA d.wh.n,iA d.wh.line,iA d.wh.aS,iA d.bO,iA d.line,iA d.aS]
theorem F4{d:Dc}{c:Ck}{l:List (List UInt8×Nat)}{n:Nat}(hl:c.names d.kind=l)(ha:cV d.name l=some n):eI d c=c.aV 20 d.line d.aS:=by
 rw[kH] at ha;unfold eI;rw[hl,ha];exact if_pos rfl
theorem F5{d:Dc}{c:Ck}{l:List (List UInt8×Nat)}(hl:c.names d.kind=l)(ha:cV d.name l=none)(h7:decide ((d.n:Int)>7)=true):eI d c=c.aV 33 d.line d.aS:=by
 have h7:=of_decide_eq_true h7;rw[kH] at ha;unfold eI;rw[hl,ha,if_neg (by simp),if_pos (by omega)]
theorem F6{d:Dc}{c:Ck}{l:List (List UInt8×Nat)}(hl:c.names d.kind=l)(ha:cV d.name l=none)(h7:decide ((d.n:Int)>7)=false):eI d c=if d.kind=1 then { c with jT:=c.jT++[(d.name,d.n)] } else { c with labels:=c.labels++[(d.name,d.n)] }:=by
 have h7:=of_decide_eq_false h7;rw[kH] at ha;unfold eI;rw[hl,ha,if_neg (by simp),if_neg (by omega)]
theorem Lq{c:Ck}{gs:List lI}{pl:List (Value×List Bx)}{rv:Value}{rs:List cL}{d:Dc}{v:Value}(hk:d.kind=1\/d.kind=2) :
  CP [] 312 [.ptr 0 0,.agg (dA d v)] (o3 c gs pl rv rs) (fun u H'=>u=aP/\∃G,H'=o3 (eI d c) gs pl rv rs++G):=by
 rcases hk with hk|hk
 ·have hl:c.names d.kind=c.jT:=by rw[hk];rfl
  unfold dA;rw[hk];refine ae U rfl ?_;repeat' ((conv=>whnf);first|with_reducible apply aa<;>intro _|refine aJ.drawn U rfl rfl ?_|with_reducible refine And.intro (aG.mk ⟨_,rfl,rfl⟩) ?_|refine ai.lx _ gC eR rfl rfl rfl rfl (fun a ha=>?_) (fun ha=>?_)|refine And.intro (aG.look _ gC eR rfl rfl rfl rfl rfl (by assumption) rfl rfl) ?_|refine ai.dg (key:=d.name) (a:=d.n) gC eR rfl rfl rfl rfl rfl rfl rfl rfl ?_|(refine (fL (c:=c) (gs:=gs) (pl:=pl) (rv:=rv) (rs:=rs) (e:=20) (l:=d.line) (k:=d.aS)).use [0,1,2,3,4,5,6] rfl rfl ⟨⟨_,rfl,rfl⟩,⟨_,rfl,rfl⟩,⟨_,rfl,rfl⟩,⟨_,rfl,rfl⟩,⟨_,rfl,rfl⟩,ko,ko,tU⟩ ?_;rintro _ _ ⟨rfl,G,rfl⟩;refine ⟨[],?_⟩)|(refine (fL (c:=c) (gs:=gs) (pl:=pl) (rv:=rv) (rs:=rs) (e:=33) (l:=d.line) (k:=d.aS)).use [0,1,2,3,4,5,6] rfl rfl ⟨⟨_,rfl,rfl⟩,⟨_,rfl,rfl⟩,⟨_,rfl,rfl⟩,⟨_,rfl,rfl⟩,⟨_,rfl,rfl⟩,ko,ko,tU⟩ ?_;rintro _ _ ⟨rfl,G,rfl⟩;refine ⟨[],?_⟩))
  all_goals (try conv=>whnf)
  ·rw[F4 hl ha];exact ⟨rfl,_,rfl⟩
  ·rename_i h3;rw[F5 hl ha h3];exact ⟨rfl,_,rfl⟩
  ·rename_i h3;rw[F6 hl ha h3,xg ha,if_pos hk];exact ⟨rfl,_,rfl⟩
 ·have hl:c.names d.kind=c.labels:=by rw[hk];rfl
  unfold dA;rw[hk];refine ae U rfl ?_;repeat' ((conv=>whnf);first|with_reducible apply aa<;>intro _|refine aJ.drawn U rfl rfl ?_|with_reducible refine And.intro (aG.mk ⟨_,rfl,rfl⟩) ?_|refine ai.lx _ gC eR rfl rfl rfl rfl (fun a ha=>?_) (fun ha=>?_)|refine And.intro (aG.look _ gC eR rfl rfl rfl rfl rfl (by assumption) rfl rfl) ?_|refine ai.dg (key:=d.name) (a:=d.n) gC eR rfl rfl rfl rfl rfl rfl rfl rfl ?_|(refine (fL (c:=c) (gs:=gs) (pl:=pl) (rv:=rv) (rs:=rs) (e:=20) (l:=d.line) (k:=d.aS)).use [0,1,2,3,4,5,6] rfl rfl ⟨⟨_,rfl,rfl⟩,⟨_,rfl,rfl⟩,⟨_,rfl,rfl⟩,⟨_,rfl,rfl⟩,⟨_,rfl,rfl⟩,ko,ko,tU⟩ ?_;rintro _ _ ⟨rfl,G,rfl⟩;refine ⟨[],?_⟩)|(refine (fL (c:=c) (gs:=gs) (pl:=pl) (rv:=rv) (rs:=rs) (e:=33) (l:=d.line) (k:=d.aS)).use [0,1,2,3,4,5,6] rfl rfl ⟨⟨_,rfl,rfl⟩,⟨_,rfl,rfl⟩,⟨_,rfl,rfl⟩,⟨_,rfl,rfl⟩,⟨_,rfl,rfl⟩,ko,ko,tU⟩ ?_;rintro _ _ ⟨rfl,G,rfl⟩;refine ⟨[],?_⟩))
  all_goals (try conv=>whnf)
  ·rw[F4 hl ha];exact ⟨rfl,_,rfl⟩
  ·rename_i h3;rw[F5 hl ha h3];exact ⟨rfl,_,rfl⟩
  ·rename_i h3;rw[F6 hl ha h3,xg ha,if_neg (by omega)];exact ⟨rfl,_,rfl⟩
theorem Nj(b:Bx):oo b.x0 b.y0 b.x1 b.y1=kI b:=by
 unfold oo kI;rw[decide_eq_decide];omega
theorem Ab{R:aH}{oa:Option Addr}{m:Nat}{l:List Bx}(h:eG Tryz.prog R nA 4 oa (fun b=>.agg (gN b).toArray) l)(hl:l.length<=1000000):CP [] 315 [.lit (.slice oa l.length m)] [.res R] (fun v H'=>v=bA (l.all kI)/\∃G,H'=.res R::G):=by
 refine ae U rfl ?_;conv=>whnf
 refine aW U rfl (fun k:Nat=>[(5,.lit (.slice oa l.length m)),(6,iA l.length),(7,iA (k:Nat))]) (fun _=>[.res R]) (fun k=>k<=l.length/\l.all kI=(l.drop k).all kI) (fun k=>l.length - k) 0 ⟨Nat.zero_le _,rfl⟩ [0] ?_ ?_
 ·exact ⟨rfl,⟨rr,rr,rr,tU⟩,⟨ko,tU⟩⟩
 ·rintro k ⟨gT,hr⟩;by_cases hk:k<l.length
  ·obtain ⟨a,rfl,bq⟩:=h.at hk;rw[List.drop_eq_getElem_cons hk,List.all_cons] at hr;conv=>whnf
   refine aa (fun _=>?_) (ck hk);repeat' ((conv=>whnf);first|with_reducible apply aa<;>intro _|refine ai.bJ U rfl rfl rfl rfl rfl hk ?_|refine ai.aR (i:=0) (v:=.agg [iA l[k].x0,iA l[k].y0,iA l[k].x1,iA l[k].y1]) rfl (fun w S hR=>bq w S hR k hk) rfl rfl ?_|refine zI ?_|refine ae U rfl ?_)
   all_goals (try conv=>whnf)
   all_goals
    rename_i hb
    simp only[Bool.not_eq_true',Bool.not_eq_false',Bool.not_eq_eq_eq_not,Bool.not_true,Bool.not_false,Nj] at hb
    rw[hb] at hr
   ·exact ⟨k+1,[0],⟨⟨hk,by rw[hr,Bool.true_and]⟩,by omega⟩,rfl,⟨rr,rr,⟨rfl,aw rfl (aj (by omega) (by omega))⟩,tU⟩,⟨ko,tU⟩⟩
   ·exact ⟨bh (by rw[hr];rfl),_,rfl⟩
  ·obtain rfl:k=l.length:=by omega
   rw[List.drop_length] at hr;conv=>whnf
   refine aa (cI hk) (fun _=>?_);conv=>whnf
   exact ⟨bh (by rw[hr];rfl),_,rfl⟩
structure fi(c c':Ck):Prop where
 a:c'.jT=c.jT
 b:c'.labels=c.labels
 g:c'.regions=c.regions
 r:c'.rules=c.rules
 n:c'.boxes=c.boxes
theorem fi.refl{c:Ck}:fi c c:=⟨rfl,rfl,rfl,rfl,rfl⟩
theorem cO{c:Ck}{e l k:Nat}:fi c (c.aV e l k):=by
 unfold Ck.aV;split<;>exact ⟨rfl,rfl,rfl,rfl,rfl⟩
theorem fi.trans{a b c:Ck}(h:fi a b)(k:fi b c):fi a c:=⟨k.a.trans h.a,k.b.trans h.b,k.g.trans h.g,k.r.trans h.r,k.n.trans h.n⟩
theorem tE{c:Ck}{k:Nat}{x:fQ}:fi c (cP k x c).2:=by
 unfold cP;simp only[];repeat' split
 all_goals first|exact .refl|exact cO|exact cO.trans cO
theorem yY{c:Ck}{x:fQ}:fi c (cH x c).2:=by
 unfold cH;repeat' split
 all_goals first|exact .refl|exact cO
theorem s9{c:Ck}{b:Int}{gs:List lI}{pl:List (Value×List Bx)}{rv:Value}{rs:List cL}{e l k:Nat} :
  CP [] 416 [.ptr 0 0,iA e,.agg [iA l,iA k]] (uk c b gs pl rv rs) (fun v H'=>v=aP/\∃c',c'=c.aV e l k/\fi c c'/\∃G,H'=uk c' b gs pl rv rs++G):=
 ag.mono F9 fun v H' h=>⟨h.1,_,rfl,cO,h.2⟩
theorem zy{c:Ck}{gs:List lI}{pl:List (Value×List Bx)}{rv:Value}{rs:List cL}{k:Nat}{x:fQ}{b:Int}(hk:k=1\/k=2)(hb:b=c.boxes) :
  CP [] 417 [.ptr 0 0,iA k,.agg (wA x)] (uk c b gs pl rv rs) (fun v H'=>∃n c',cP k x c=(n,c')/\fi c c'/\v=iA (n:Nat)/\∃G,H'=uk c' b gs pl rv rs++G):=by
 subst hb;exact ag.mono (TC hk) fun v H' h=>⟨_,_,rfl,tE,h.1,by rw[<-tE.n];exact h.2⟩
theorem Ek{c:Ck}{gs:List lI}{pl:List (Value×List Bx)}{x:fQ}(hg:zL c gs pl):(cH x c).1.length<=1000000:=by
 unfold cH;split
 ·exact Nat.le_add_left 1 999999
 ·cases ha:assoc c.regions x.name with
  | none=>exact Nat.zero_le _
  | some l=>
    rw[hg.HR,vk] at ha;cases hf:gs.find? fun g=>decide (x.name=g.n) with
    | none=>rw[hf] at ha;cases ha
    | some g=>
      rw[hf] at ha;obtain ⟨_,_,h3,_⟩:=hg.NG g (List.mem_of_find?_eq_some hf);have e:g.l=l:=Option.some.inj ha;rw[<-e];exact h3
theorem CZ{c:Ck}{gs:List lI}{pl:List (Value×List Bx)}{rv:Value}{rs:List cL}{x:fQ}{b:Int}(hg:zL c gs pl)(hb:b=c.boxes) :
  CP [] 418 [.ptr 0 0,.agg (wA x)] (uk c b gs pl rv rs) (fun v H'=>∃l c' A m eu,cH x c=(l,c')/\fi c c'/\v=.lit (.slice A l.length m)/\(∀p∈pl,p∈eu)/\(l=[]->(.slice A l.length m)=aO)/\(l≠[]->((.slice A l.length m),l)∈eu)/\l.length<=1000000/\∃G,H'=uk c' b gs eu rv rs++G):=by
 subst hb;refine ag.mono (No hg) ?_;rintro v H' ⟨V,eu,rfl,hv,h1,h2,G,rfl⟩;have hl:=Ek (x:=x) hg;have hs:=yY (c:=c) (x:=x);revert hv h2 hl hs;generalize cH x c=q;obtain ⟨l,c'⟩:=q;intro hv h2 hl hs;rcases hv with ⟨rfl,h0⟩|⟨aN,a,m,rfl⟩
 ·simp only[] at h0;subst h0;exact ⟨[],c',none,0,eu,rfl,hs,rfl,h1,fun _=>rfl,fun h=>absurd rfl h,Nat.zero_le _,G,by rw[<-hs.n];rfl⟩
 ·exact ⟨l,c',some a,m,eu,rfl,hs,rfl,h1,fun h=>absurd h aN,h2,hl,G,by rw[<-hs.n];rfl⟩
theorem tA:∀(y:cL),∀u∈eD y,u.oneCell'=true:=fun y u hu=>by
 simp only[eD,List.mem_cons,List.not_mem_nil,or_false] at hu;rcases hu with rfl|rfl|rfl|rfl|rfl|rfl|rfl<;>rfl
def uz(pl:List (Value×List Bx))(y:cL):Prop:=(y.x.boxes=[]->y.v=aO)/\(y.x.boxes≠[]->(y.v,y.x.boxes)∈pl)/\y.x.boxes.length<=1000000
theorem uz.more{pl eu:List (Value×List Bx)}{y:cL}(h:uz pl y)(hs:∀p∈pl,p∈eu):uz eu y:=⟨h.1,fun k=>hs _ (h.2.1 k),h.2.2⟩
structure Cf(c:Ck)(gs:List lI)(pl:List (Value×List Bx))(rv:Value)(rs:List cL):Prop where
 g:zL c gs pl
 r:c.rules=rs.map cL.x
 b:∀y∈rs,uz pl y
 v:(rv=aO/\rs=[])\/∃A m,rv=.slice (some A) rs.length m
theorem zL.more{c c':Ck}{gs:List lI}{pl eu:List (Value×List Bx)}(h:zL c gs pl)(e:c'.regions=c.regions)(hs:∀p∈pl,p∈eu):zL c' gs eu:=
 ⟨by rw[e];exact h.HR,fun g hg=>⟨hs _ (h.NG g hg).1,(h.NG g hg).2⟩⟩
theorem tB{v:Value}{l:List cL}(w:World)(S:Nat->Prop)(h:(aB eD 7 fN v l).at_ w S):bw [aB eD 7 fN v l,aA] w S:=
 ⟨S,fun _=>False,h,⟨fun _=>False,fun _=>False,fun _ h=>h,fun _ h=>h,fun _ h _=>h,fun b=>by simp⟩,fun _ _ h=>h,fun b=>by simp⟩
theorem wU{v:Value}{l:List cL}(w:World)(S:Nat->Prop)(h:bw [aB eD 7 fN v l,aA] w S):(aB eD 7 fN v l).at_ w S:=by
 obtain ⟨S1,S2,h1,⟨T1,T2,k1,k2,_,ri⟩,_,hS⟩:=h;refine ⟨h1.1,fun b=>?_⟩;rw[hS b,ri b];have e1:=h1.2 b;have e2:=k1 b;have e3:=k2 b;simp only[e2,e3,or_false];exact e1
theorem vE{c:Ck}{n e l k:Nat}:({ c with boxes:=n }:Ck).aV e l k={ c.aV e l k with boxes:=n }:=by
 unfold Ck.aV;simp only[];split<;>rfl
theorem uE{c c0 c1:Ck}{d:Dc}{n1:Nat}(h6:d.kind=6)(e0:(if c.rules.length=32 then c.aV 2 d.line d.aS else c)=c0)(e1:cP 1 d.role c0=(n1,c1)) :
  gK d c={ c1 with rules:=c1.rules++[⟨d.kind,n1,0,0,0,[],0⟩] }:=by
 subst e0;unfold gK;simp only[];rw[if_pos h6,e1,h6]
theorem uF{c c0 c1 c2 c3 c4 c5 c6:Ck}{d:Dc}{n n1 n2:Nat}{l2:List Bx}(h6:d.kind≠6)(e0:(if c.rules.length=32 then c.aV 2 d.line d.aS else c)=c0)(e1:cP 1 d.role c0=(n1,c1))
  (e2:(if d.hi<d.lo\/7<d.hi then c1.aV 33 d.line d.aS else c1)=c2) (e3:cP 2 d.label c2=(n2,c3)) (e4:cH d.wh c3=(l2,c4)) (hn:c4.boxes=n) (e5:(if 32<n+l2.length then c4.aV 2 d.line d.aS else c4)=c5) (e6:(if 16<d.bO then c5.aV 33 d.line d.aS else c5)=c6) :
  gK d c={ c6 with boxes:=n+l2.length,rules:=c6.rules++[⟨d.kind,n1,d.lo,d.hi,n2,l2,d.bO⟩] }:=by
 subst hn e0 e2 e5 e6;unfold gK;simp only[];rw[if_neg h6,e1];simp only[];rw[e3];simp only[];rw[e4];simp only[];by_cases h5:32<c4.boxes+l2.length
 ·by_cases hz:16<d.bO
  ·simp only[if_pos h5,if_pos hz,vE]
  ·simp only[if_pos h5,if_neg hz,vE]
 ·by_cases hz:16<d.bO
  ·simp only[if_neg h5,if_pos hz,vE]
  ·simp only[if_neg h5,if_neg hz]
theorem zG{c cR:Ck}{gs:List lI}{pl JK:List (Value×List Bx)}{rs:List cL}{y:cL}{A3:Addr}{m3:Nat}(hg:zL c gs pl)(hr:c.rules=rs.map cL.x)(AQ:∀y∈rs,uz pl y)(mX:∀p∈pl,p∈JK)(h1:cR.regions=c.regions)(h2:cR.rules=c.rules++[y.x])(hy:uz JK y) :
  Cf cR gs JK (.slice (some A3) (rs.length+1) m3) (rs++[y]):=
 ⟨hg.more h1 mX,by rw[h2,hr];simp,fun z hz=>by
  rcases List.mem_append.1 hz with h|h
  ·exact (AQ z h).more mX
  ·rw[List.mem_singleton.1 h];exact hy,.inr ⟨A3,m3,by simp⟩⟩
theorem Nn{c:Ck}{gs:List lI}{pl:List (Value×List Bx)}{rv:Value}{rs:List cL}{d:Dc}{v:Value}{c':Ck}{b:Int}(hi:Cf c gs pl rv rs)(kU:c.rules.length<=32)(hb:c.boxes<=32)(h0:c=c')(gf:fi c c')(gS:b=c.boxes) :
  CP [] 311 [.ptr 0 0,.agg (dA d v)] (uk c' b gs pl rv rs) (fun u H'=>u=aP/\∃eu zk zi,Cf (gK d c) gs eu zk zi/\∃G,H'=o3 (gK d c) gs eu zk zi++G):=by
 obtain ⟨hg,hr,AQ,hv⟩:=hi;have GY:rs.length<=32:=by rw[hr,List.length_map] at kU;exact kU
 clear kU;rcases hv with ⟨rfl,rfl⟩|⟨A,m,rfl⟩
 ·refine ae U rfl ?_;repeat' ((conv=>whnf);first|with_reducible apply aa<;>intro _|refine aJ.drawn U rfl rfl ?_|with_reducible refine And.intro (aG.mk ⟨_,rfl,rfl⟩) ?_|(refine (s9 (c:=c') (b:=_) (gs:=gs) (pl:=_) (rv:=aO) (rs:=[]) (e:=2) (l:=d.line) (k:=d.aS)).use [0,1,2,3,4,5,6] rfl rfl ⟨⟨_,rfl,rfl⟩,⟨_,rfl,rfl⟩,⟨_,rfl,rfl⟩,⟨_,rfl,rfl⟩,⟨_,rfl,rfl⟩,ko,ko,tU⟩ ?_;rintro _ _ ⟨rfl,c',xx,ql,G,rfl⟩;replace gf:=gf.trans ql;refine ⟨[],?_⟩)|(refine (s9 (c:=c') (b:=_) (gs:=gs) (pl:=_) (rv:=aO) (rs:=[]) (e:=33) (l:=d.line) (k:=d.aS)).use [0,1,2,3,4,5,6] rfl rfl ⟨⟨_,rfl,rfl⟩,⟨_,rfl,rfl⟩,⟨_,rfl,rfl⟩,⟨_,rfl,rfl⟩,⟨_,rfl,rfl⟩,ko,ko,tU⟩ ?_;rintro _ _ ⟨rfl,c',xx,ql,G,rfl⟩;replace gf:=gf.trans ql;refine ⟨[],?_⟩)|(refine (zy (c:=c') (b:=b) (gs:=gs) (pl:=pl) (rv:=aO) (rs:=[]) (k:=1) (x:=d.role) (by omega) (by rw[gf.n];exact gS)).use [0,1,2,3,4,5,6] rfl rfl ⟨⟨_,rfl,rfl⟩,⟨_,rfl,rfl⟩,⟨_,rfl,rfl⟩,⟨_,rfl,rfl⟩,⟨_,rfl,rfl⟩,ko,ko,tU⟩ ?_;rintro _ _ ⟨n1,c',pb,ql,rfl,G,rfl⟩;replace gf:=gf.trans ql;refine ⟨[],?_⟩)|(refine (zy (c:=c') (b:=b) (gs:=gs) (pl:=pl) (rv:=aO) (rs:=[]) (k:=2) (x:=d.label) (by omega) (by rw[gf.n];exact gS)).use [0,1,2,3,4,5,6] rfl rfl ⟨⟨_,rfl,rfl⟩,⟨_,rfl,rfl⟩,⟨_,rfl,rfl⟩,⟨_,rfl,rfl⟩,⟨_,rfl,rfl⟩,ko,ko,tU⟩ ?_;rintro _ _ ⟨n2,c',nY,ql,rfl,G,rfl⟩;replace gf:=gf.trans ql;refine ⟨[],?_⟩)|(refine (CZ (c:=c') (b:=b) (gs:=gs) (pl:=pl) (rv:=aO) (rs:=[]) (x:=d.wh) (hg.more gf.g fun _ h=>h) (by rw[gf.n];exact gS)).use [0,1,2,3,4,5,6] rfl rfl ⟨⟨_,rfl,rfl⟩,⟨_,rfl,rfl⟩,⟨_,rfl,rfl⟩,⟨_,rfl,rfl⟩,⟨_,rfl,rfl⟩,ko,ko,tU⟩ ?_;rintro _ _ ⟨l2,c',A2,m2,JK,UU,ql,rfl,mX,QV,im,gd,G,rfl⟩;replace gf:=gf.trans ql;refine ⟨[],?_⟩)|(refine dP.om (eU.k9 U sX mH (by decide) tA (i:=6) (y:=⟨⟨d.kind,n1,0,0,0,[],0⟩,none,0⟩) (l:=[]) (v:=aO) (R1:=aA) (R':=fun v'=>aB eD 7 fN v' ([]++[⟨⟨d.kind,n1,0,0,0,[],0⟩,none,0⟩])) rfl rfl rfl rfl rfl rfl rfl tB (fun v'=>wU) (by decide) ?_);intro A3 m3)|(refine dP.om (eU.k9 U sX mH (by decide) tA (i:=6) (y:=⟨⟨d.kind,n1,d.lo,d.hi,n2,l2,d.bO⟩,A2,m2⟩) (l:=[]) (v:=aO) (R1:=aA) (R':=fun v'=>aB eD 7 fN v' ([]++[⟨⟨d.kind,n1,d.lo,d.hi,n2,l2,d.bO⟩,A2,m2⟩])) rfl rfl rfl rfl rfl rfl rfl tB (fun v'=>wU) (by decide) ?_);intro A3 m3))
  all_goals (try conv=>whnf)
  all_goals
   refine ⟨rfl,?_⟩
   subst h0
   subst gS
   simp only[decide_eq_true_eq,decide_eq_false_iff_not,beq_iff_eq,beq_eq_false_iff_ne] at *
   subst_vars
   first
    | (have hR:=uE (d:=d) (c:=c) (by omega) (by first|(refine if_neg ?_;rw[hr];simp;done)|(refine if_neg ?_;rw[hr,List.length_map];omega)|(refine if_pos ?_;rw[hr,List.length_map];omega)) pb
       refine ⟨pl,_,_,zG (A3:=A3) (m3:=m3) (y:=⟨⟨d.kind,n1,0,0,0,[],0⟩,none,0⟩) hg hr AQ (fun _ h=>h) (by rw[hR];exact gf.g) (by rw[hR];exact congrArg (·++_) gf.r) ⟨fun _=>rfl,fun h=>absurd rfl h,Nat.zero_le _⟩,?_⟩
       rw[hR,<-gf.n]
       exact ⟨_,rfl⟩)
    | (have hW:IntKind.i64.wrap (↑c.boxes+↑l2.length)=((c.boxes+l2.length:Nat):Int):=(aj (by omega) (by omega)).trans (by omega)
       have hR:=uF (d:=d) (c:=c) (n:=c.boxes) (by omega) (by first|(refine if_neg ?_;rw[hr];simp;done)|(refine if_neg ?_;rw[hr,List.length_map];omega)|(refine if_pos ?_;rw[hr,List.length_map];omega)) pb (by first|(refine if_neg ?_;omega)|(refine if_pos ?_;omega)) nY UU (by first|exact gf.n|(have e:=gf.n;rw[fK] at e;exact e)|(have e:=gf.n;rw[fK,fK] at e;exact e)) (by first|(refine if_neg ?_;omega)|(refine if_pos ?_;omega)) (by first|(refine if_neg ?_;omega)|(refine if_pos ?_;omega))
       refine ⟨JK,_,_,zG (A3:=A3) (m3:=m3) (y:=⟨⟨d.kind,n1,d.lo,d.hi,n2,l2,d.bO⟩,A2,m2⟩) hg hr AQ mX (by rw[hR];exact gf.g) (by rw[hR];exact congrArg (·++_) gf.r) ⟨QV,im,gd⟩,?_⟩
       rw[hR,hW]
       exact ⟨_,rfl⟩)
 ·refine ae U rfl ?_;repeat' ((conv=>whnf);first|with_reducible apply aa<;>intro _|refine aJ.drawn U rfl rfl ?_|with_reducible refine And.intro (aG.mk ⟨_,rfl,rfl⟩) ?_|(refine (s9 (c:=c') (b:=_) (gs:=gs) (pl:=_) (rv:=(.slice (some A) rs.length m)) (rs:=rs) (e:=2) (l:=d.line) (k:=d.aS)).use [0,1,2,3,4,5,6] rfl rfl ⟨⟨_,rfl,rfl⟩,⟨_,rfl,rfl⟩,⟨_,rfl,rfl⟩,⟨_,rfl,rfl⟩,⟨_,rfl,rfl⟩,ko,ko,tU⟩ ?_;rintro _ _ ⟨rfl,c',xx,ql,G,rfl⟩;replace gf:=gf.trans ql;refine ⟨[],?_⟩)|(refine (s9 (c:=c') (b:=_) (gs:=gs) (pl:=_) (rv:=(.slice (some A) rs.length m)) (rs:=rs) (e:=33) (l:=d.line) (k:=d.aS)).use [0,1,2,3,4,5,6] rfl rfl ⟨⟨_,rfl,rfl⟩,⟨_,rfl,rfl⟩,⟨_,rfl,rfl⟩,⟨_,rfl,rfl⟩,⟨_,rfl,rfl⟩,ko,ko,tU⟩ ?_;rintro _ _ ⟨rfl,c',xx,ql,G,rfl⟩;replace gf:=gf.trans ql;refine ⟨[],?_⟩)|(refine (zy (c:=c') (b:=b) (gs:=gs) (pl:=pl) (rv:=(.slice (some A) rs.length m)) (rs:=rs) (k:=1) (x:=d.role) (by omega) (by rw[gf.n];exact gS)).use [0,1,2,3,4,5,6] rfl rfl ⟨⟨_,rfl,rfl⟩,⟨_,rfl,rfl⟩,⟨_,rfl,rfl⟩,⟨_,rfl,rfl⟩,⟨_,rfl,rfl⟩,ko,ko,tU⟩ ?_;rintro _ _ ⟨n1,c',pb,ql,rfl,G,rfl⟩;replace gf:=gf.trans ql;refine ⟨[],?_⟩)|(refine (zy (c:=c') (b:=b) (gs:=gs) (pl:=pl) (rv:=(.slice (some A) rs.length m)) (rs:=rs) (k:=2) (x:=d.label) (by omega) (by rw[gf.n];exact gS)).use [0,1,2,3,4,5,6] rfl rfl ⟨⟨_,rfl,rfl⟩,⟨_,rfl,rfl⟩,⟨_,rfl,rfl⟩,⟨_,rfl,rfl⟩,⟨_,rfl,rfl⟩,ko,ko,tU⟩ ?_;rintro _ _ ⟨n2,c',nY,ql,rfl,G,rfl⟩;replace gf:=gf.trans ql;refine ⟨[],?_⟩)|(refine (CZ (c:=c') (b:=b) (gs:=gs) (pl:=pl) (rv:=(.slice (some A) rs.length m)) (rs:=rs) (x:=d.wh) (hg.more gf.g fun _ h=>h) (by rw[gf.n];exact gS)).use [0,1,2,3,4,5,6] rfl rfl ⟨⟨_,rfl,rfl⟩,⟨_,rfl,rfl⟩,⟨_,rfl,rfl⟩,⟨_,rfl,rfl⟩,⟨_,rfl,rfl⟩,ko,ko,tU⟩ ?_;rintro _ _ ⟨l2,c',A2,m2,JK,UU,ql,rfl,mX,QV,im,gd,G,rfl⟩;replace gf:=gf.trans ql;refine ⟨[],?_⟩)|(refine ai.om (eU.k9 U sX mH (by decide) tA (i:=6) (y:=⟨⟨d.kind,n1,0,0,0,[],0⟩,none,0⟩) (l:=rs) (v:=(.slice (some A) rs.length m)) (R1:=aA) (R':=fun v'=>aB eD 7 fN v' (rs++[⟨⟨d.kind,n1,0,0,0,[],0⟩,none,0⟩])) rfl rfl rfl rfl rfl rfl rfl tB (fun v'=>wU) (by omega) ?_);intro A3 m3)|(refine ai.om (eU.k9 U sX mH (by decide) tA (i:=6) (y:=⟨⟨d.kind,n1,d.lo,d.hi,n2,l2,d.bO⟩,A2,m2⟩) (l:=rs) (v:=(.slice (some A) rs.length m)) (R1:=aA) (R':=fun v'=>aB eD 7 fN v' (rs++[⟨⟨d.kind,n1,d.lo,d.hi,n2,l2,d.bO⟩,A2,m2⟩])) rfl rfl rfl rfl rfl rfl rfl tB (fun v'=>wU) (by omega) ?_);intro A3 m3))
  all_goals (try conv=>whnf)
  all_goals
   refine ⟨rfl,?_⟩
   subst h0
   subst gS
   simp only[decide_eq_true_eq,decide_eq_false_iff_not,beq_iff_eq,beq_eq_false_iff_ne] at *
   subst_vars
   first
    | (have hR:=uE (d:=d) (c:=c) (by omega) (by first|(refine if_neg ?_;rw[hr];simp;done)|(refine if_neg ?_;rw[hr,List.length_map];omega)|(refine if_pos ?_;rw[hr,List.length_map];omega)) pb
       refine ⟨pl,_,_,zG (A3:=A3) (m3:=m3) (y:=⟨⟨d.kind,n1,0,0,0,[],0⟩,none,0⟩) hg hr AQ (fun _ h=>h) (by rw[hR];exact gf.g) (by rw[hR];exact congrArg (·++_) gf.r) ⟨fun _=>rfl,fun h=>absurd rfl h,Nat.zero_le _⟩,?_⟩
       rw[hR,<-gf.n]
       exact ⟨_,rfl⟩)
    | (have hW:IntKind.i64.wrap (↑c.boxes+↑l2.length)=((c.boxes+l2.length:Nat):Int):=(aj (by omega) (by omega)).trans (by omega)
       have hR:=uF (d:=d) (c:=c) (n:=c.boxes) (by omega) (by first|(refine if_neg ?_;rw[hr];simp;done)|(refine if_neg ?_;rw[hr,List.length_map];omega)|(refine if_pos ?_;rw[hr,List.length_map];omega)) pb (by first|(refine if_neg ?_;omega)|(refine if_pos ?_;omega)) nY UU (by first|exact gf.n|(have e:=gf.n;rw[fK] at e;exact e)|(have e:=gf.n;rw[fK,fK] at e;exact e)) (by first|(refine if_neg ?_;omega)|(refine if_pos ?_;omega)) (by first|(refine if_neg ?_;omega)|(refine if_pos ?_;omega))
       refine ⟨JK,_,_,zG (A3:=A3) (m3:=m3) (y:=⟨⟨d.kind,n1,d.lo,d.hi,n2,l2,d.bO⟩,A2,m2⟩) hg hr AQ mX (by rw[hR];exact gf.g) (by rw[hR];exact congrArg (·++_) gf.r) ⟨QV,im,gd⟩,?_⟩
       rw[hR,hW]
       exact ⟨_,rfl⟩)
section
variable{R:aH}{A:Option Addr}{m:Nat}{L:List Tk}{e:Nat×Nat}{p:Pr}
abbrev iz:TypeId:=175
theorem KV{d:Dc}{v:Value}(hT:gM R A L)(hs:Sf L p):CP [] 305 [.ptr 0 0,.ptr 1 0] [dB A m L e p,.cells (dA d v) iz,.res R] (fun u H'=>u=aP/\∃G,H'=dB A m L e (fG e d p).2::.cells (dA (fG e d p).1 v) iz::.res R::G):=by
 have h1:=E6 (m:=m) (e:=e) hT hs;have h2:=lD (m:=m) (e:=e) (s:=[61]) hT (hs.name e);have h3:=wM (m:=m) (e:=e) hT ((hs.name e).want e [61]);unfold fG;simp only[];obtain ⟨a,ha⟩:∃a,a=gl e p:=⟨_,rfl⟩;rw[<-ha] at h1 h2 h3 ⊢;obtain ⟨q,hq⟩:∃q,q=a.2.want e [61]:=⟨_,rfl⟩;rw[<-hq] at h2 h3 ⊢;obtain ⟨b,hb⟩:∃b,b=fy e q:=⟨_,rfl⟩;rw[<-hb] at h3 ⊢;clear ha hq hb;refine ae U rfl ?_;repeat' ((conv=>whnf);first|with_reducible apply aa<;>intro _|(refine h1.use [0,2] rfl rfl ⟨⟨_,rfl,rfl⟩,ko,tU⟩ ?_;rintro _ _ ⟨rfl,G,rfl⟩;refine ⟨[],?_⟩)|(refine h2.use [0,2] rfl rfl ⟨⟨_,rfl,rfl⟩,ko,tU⟩ ?_;rintro _ _ ⟨rfl,G,rfl⟩;refine ⟨[],?_⟩)|(refine h3.use [0,2] rfl rfl ⟨⟨_,rfl,rfl⟩,ko,tU⟩ ?_;rintro _ _ ⟨rfl,G,rfl⟩;refine ⟨[],?_⟩))
 all_goals (try conv=>whnf)
 exact ⟨rfl,_,rfl⟩
theorem KU{d:Dc}{v:Value}(hT:gM R A L)(hs:Sf L p):CP [] 307 [.ptr 0 0,.ptr 1 0] [dB A m L e p,.cells (dA d v) iz,.res R] (fun u H'=>u=aP/\∃G,H'=dB A m L e (eh e d p).2::.cells (dA (eh e d p).1 v) iz::.res R::G):=by
 have h1:=lD (m:=m) (e:=e) (s:=bQ) hT hs;have h2:=S6 (m:=m) (e:=e) hT (hs.want e bQ);unfold eh;simp only[];obtain ⟨q,hq⟩:∃q,q=p.want e bQ:=⟨_,rfl⟩;rw[<-hq] at h1 h2 ⊢;obtain ⟨b,hb⟩:∃b,b=ij e q:=⟨_,rfl⟩;rw[<-hb] at h2 ⊢;clear hq hb;refine ae U rfl ?_;repeat' ((conv=>whnf);first|with_reducible apply aa<;>intro _|(refine h1.use [0,2] rfl rfl ⟨⟨_,rfl,rfl⟩,ko,tU⟩ ?_;rintro _ _ ⟨rfl,G,rfl⟩;refine ⟨[],?_⟩)|(refine h2.use [0,2] rfl rfl ⟨⟨_,rfl,rfl⟩,ko,tU⟩ ?_;rintro _ _ ⟨rfl,G,rfl⟩;refine ⟨[],?_⟩))
 all_goals (try conv=>whnf)
 exact ⟨rfl,_,rfl⟩
theorem Sf.Em{d:Dc}(h:Sf L p)(e:Nat×Nat):Sf L (eh e d p).2:=(h.want e bQ).VO e
theorem JO{d:Dc}{v:Value}(hT:gM R A L)(hs:Sf L p):CP [] 303 [.ptr 0 0,.ptr 1 0] [dB A m L e p,.cells (dA d v) iz,.res R] (fun u H'=>u=aP/\∃G,H'=dB A m L e (de e d p).2::.cells (dA (de e d p).1 v) iz::.res R::G):=by
 have s1:Sf L (eh e d p).2:=hs.Em e;have h1:=KU (m:=m) (e:=e) (d:=d) (v:=v) hT hs;have h2:=lD (m:=m) (e:=e) (s:=qO) hT s1;have h3:=RC (m:=m) (e:=e) hT (s1.want e qO);have s2:=(s1.want e qO).P3 e;have h4:=lD (m:=m) (e:=e) (s:=bK) hT s2;have h5:=S6 (m:=m) (e:=e) hT (s2.want e bK);have s3:=(s2.want e bK).VO e;have h6:=lD (m:=m) (e:=e) (s:=Fs) hT s3;have h7:=RD (m:=m) (e:=e) hT (s3.want e Fs);have s4:=(s3.want e Fs).where e;have h8:=lD (m:=m) (e:=e) (s:=sR) hT s4;have h9:=wM (m:=m) (e:=e) hT (s4.want e sR);unfold de;simp only[];clear s1 s2 s3 s4;have hc:eh e d p=({ d with role:=(ij e (p.want e bQ)).1 },(ij e (p.want e bQ)).2):=rfl;rw[hc] at h1 h2 h3 h4 h5 h6 h7 h8 h9 ⊢;clear hc;simp only[] at h1 h2 h3 h4 h5 h6 h7 h8 h9 ⊢;obtain ⟨a,ha⟩:∃a,a=ij e (p.want e bQ):=⟨_,rfl⟩;rw[<-ha] at h1 h2 h3 h4 h5 h6 h7 h8 h9 ⊢;obtain ⟨q1,kY⟩:∃q,q=a.2.want e qO:=⟨_,rfl⟩;rw[<-kY] at h2 h3 h4 h5 h6 h7 h8 h9 ⊢;obtain ⟨t,ht⟩:∃t,t=fY e q1:=⟨_,rfl⟩;rw[<-ht] at h3 h4 h5 h6 h7 h8 h9 ⊢;obtain ⟨q2,nW⟩:∃q,q=t.2.2.want e bK:=⟨_,rfl⟩;rw[<-nW] at h4 h5 h6 h7 h8 h9 ⊢;obtain ⟨l,hl⟩:∃l,l=ij e q2:=⟨_,rfl⟩;rw[<-hl] at h5 h6 h7 h8 h9 ⊢;obtain ⟨q3,GX⟩:∃q,q=l.2.want e Fs:=⟨_,rfl⟩;rw[<-GX] at h6 h7 h8 h9 ⊢;obtain ⟨r,hr⟩:∃r,r=fZ e q3:=⟨_,rfl⟩;rw[<-hr] at h7 h8 h9 ⊢;obtain ⟨q4,Xx⟩:∃q,q=r.2.want e sR:=⟨_,rfl⟩;rw[<-Xx] at h8 h9 ⊢;obtain ⟨z,hz⟩:∃z,z=fy e q4:=⟨_,rfl⟩;rw[<-hz] at h9 ⊢;clear ha kY ht nW hl GX hr Xx hz;refine ae U rfl ?_;refine eP.of rfl rfl ?_;refine aF.au fun F hF=>?_;repeat' ((conv=>whnf);first|with_reducible apply aa<;>intro _|(show F _ _ _;subst hF;refine aF.au fun F hF=>?_)|(show F _ _ _;subst hF)|(refine h1.use [0,1,2] rfl rfl ⟨⟨_,rfl,rfl⟩,⟨_,rfl,rfl⟩,ko,tU⟩ ?_;rintro _ _ ⟨rfl,G,rfl⟩;refine ⟨[],?_⟩)|(refine h2.use [0,2] rfl rfl ⟨⟨_,rfl,rfl⟩,ko,tU⟩ ?_;rintro _ _ ⟨rfl,G,rfl⟩;refine ⟨[],?_⟩)|(refine h3.use [0,2] rfl rfl ⟨⟨_,rfl,rfl⟩,ko,tU⟩ ?_;rintro _ _ ⟨rfl,G,rfl⟩;refine ⟨[],?_⟩)|(refine h4.use [0,2] rfl rfl ⟨⟨_,rfl,rfl⟩,ko,tU⟩ ?_;rintro _ _ ⟨rfl,G,rfl⟩;refine ⟨[],?_⟩)|(refine h5.use [0,2] rfl rfl ⟨⟨_,rfl,rfl⟩,ko,tU⟩ ?_;rintro _ _ ⟨rfl,G,rfl⟩;refine ⟨[],?_⟩)|(refine h6.use [0,2] rfl rfl ⟨⟨_,rfl,rfl⟩,ko,tU⟩ ?_;rintro _ _ ⟨rfl,G,rfl⟩;refine ⟨[],?_⟩)|(refine h7.use [0,2] rfl rfl ⟨⟨_,rfl,rfl⟩,ko,tU⟩ ?_;rintro _ _ ⟨rfl,G,rfl⟩;refine ⟨[],?_⟩)|(refine h8.use [0,2] rfl rfl ⟨⟨_,rfl,rfl⟩,ko,tU⟩ ?_;rintro _ _ ⟨rfl,G,rfl⟩;refine ⟨[],?_⟩)|(refine h9.use [0,2] rfl rfl ⟨⟨_,rfl,rfl⟩,ko,tU⟩ ?_;rintro _ _ ⟨rfl,G,rfl⟩;refine ⟨[],?_⟩))
 all_goals (try conv=>whnf)
 exact ⟨rfl,_,rfl⟩
theorem Sf.boxes(h:Sf L p)(e:Nat×Nat):Sf L (bt e p).2:=by
 have:∀(k:Nat) (p:Pr) (out:List Bx),Sf L p->Sf L (fu e k p out).2:=fun k=>by
  induction k with
  | zero=>intro p out h;exact h
  | succ k ih=>
    intro p out h;unfold fu;split
    ·exact ih _ _ (h.on.box e)
    ·exact h
 exact this _ _ _ (h.box e)
theorem O9{d:Dc}{v:Value}{pl:List (Value×List Bx)}(hT:gM R A L)(hs:Sf L p):CP [] 306 [.ptr 0 0,.ptr 1 0] [dB A m L e p,.cells (dA d v) iz,.res R,.res (ay pl)] (fun u H'=>u=aP/\∃a k,a.spot=none/\(ei e d p).1.boxes≠[]/\∃G,H'=dB A m L e (ei e d p).2::.cells (dA (ei e d p).1 (.slice (some a) (ei e d p).1.boxes.length k)) iz::.res R::.res (ay (pl++[(.slice (some a) (ei e d p).1.boxes.length k,(ei e d p).1.boxes)]))::G):=by
 have h1:=E6 (m:=m) (e:=e) hT hs;have h2:=lD (m:=m) (e:=e) (s:=[61]) hT (hs.name e);have h3:=Ru (m:=m) (e:=e) (pl:=pl) hT ((hs.name e).want e [61]);unfold ei;simp only[];obtain ⟨a,ha⟩:∃a,a=gl e p:=⟨_,rfl⟩;rw[<-ha] at h1 h2 h3 ⊢;obtain ⟨q,hq⟩:∃q,q=a.2.want e [61]:=⟨_,rfl⟩;rw[<-hq] at h2 h3 ⊢;obtain ⟨b,hb⟩:∃b,b=bt e q:=⟨_,rfl⟩;rw[<-hb] at h3 ⊢;clear ha hq hb;refine ae U rfl ?_;repeat' ((conv=>whnf);first|with_reducible apply aa<;>intro _|(refine h1.use [0,2] rfl rfl ⟨⟨_,rfl,rfl⟩,ko,tU⟩ ?_;rintro _ _ ⟨rfl,G,rfl⟩;refine ⟨[],?_⟩)|(refine h2.use [0,2] rfl rfl ⟨⟨_,rfl,rfl⟩,ko,tU⟩ ?_;rintro _ _ ⟨rfl,G,rfl⟩;refine ⟨[],?_⟩)|(refine h3.use [0,2,3] rfl rfl ⟨⟨_,rfl,rfl⟩,ko,ko,tU⟩ ?_;rintro _ _ ⟨a,k,lM,rfl,aN,G,rfl⟩;refine ⟨[],?_⟩))
 all_goals (try conv=>whnf)
 exact ⟨rfl,_,_,lM,aN,_,rfl⟩
end
end Go.Proofs.YtmbdghclhpboaaaGreat
