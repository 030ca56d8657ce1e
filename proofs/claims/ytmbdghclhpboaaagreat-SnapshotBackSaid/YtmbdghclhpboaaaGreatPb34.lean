/- Part of the proof: Rul2 Rul3. Conditions: as each states. -/
import Derived.Test.YtmbdghclhpboaaaGreatPb33
set_option linter.all false
set_option maxRecDepth 100000
set_option maxHeartbeats 8000000
namespace Go.Proofs.YtmbdghclhpboaaaGreat
open Ev
theorem aput_new{κ α:Type}[DecidableEq κ]{id:κ}{r:α}{B:List (κ×α)}(h:aget id B=none):aput id r B=B++[(id,r)]:=by
 unfold aput
 unfold aget at h
 cases hf:afind id B 0 with
 | none=>rfl
 | some x=>rw[hf] at h;cases h
def dA(d:Dc)(v:Value):List AV:=[iA d.kind,.lit (stK d.name),iA d.n,.lit v,bA d.role.any,.lit (stK d.role.name),iA d.role.n,iA d.role.line,iA d.role.col,iA d.lo,iA d.hi,bA d.label.any,.lit (stK d.label.name),iA d.label.n,iA d.label.line,iA d.label.col,bA d.wh.any,.lit (stK d.wh.name),iA d.wh.n,iA d.wh.line,iA d.wh.col,iA d.zoom,iA d.line,iA d.col]
theorem ckNum_a{d:Dc}{c:Ck}{l:List (List UInt8×Nat)}{n:Nat}(hl:c.names d.kind=l)(ha:aget d.name l=some n):ckNumber d c=c.wrong 20 d.line d.col:=by
 rw[aget_assoc] at ha
 unfold ckNumber
 rw[hl,ha];exact if_pos rfl
theorem ckNum_b{d:Dc}{c:Ck}{l:List (List UInt8×Nat)}(hl:c.names d.kind=l)(ha:aget d.name l=none)(h7:decide ((d.n:Int)>7)=true):ckNumber d c=c.wrong 33 d.line d.col:=by
 have h7:=of_decide_eq_true h7
 rw[aget_assoc] at ha
 unfold ckNumber
 rw[hl,ha,if_neg (by simp),if_pos (by omega)]
theorem ckNum_c{d:Dc}{c:Ck}{l:List (List UInt8×Nat)}(hl:c.names d.kind=l)(ha:aget d.name l=none)(h7:decide ((d.n:Int)>7)=false):ckNumber d c=if d.kind=1 then { c with roles:=c.roles++[(d.name,d.n)] } else { c with labels:=c.labels++[(d.name,d.n)] }:=by
 have h7:=of_decide_eq_false h7
 rw[aget_assoc] at ha
 unfold ckNumber
 rw[hl,ha,if_neg (by simp),if_neg (by omega)]
theorem cknumber{c:Ck}{gs:List Rgn}{pl:List (Value×List Bx)}{rv:Value}{rs:List Rue}{d:Dc}{v:Value}(hk:d.kind=1∨d.kind=2) :
  CP [] 312 [.ptr 0 0,.agg (dA d v)] (ckH c gs pl rv rs) (fun u H'=>u=undefV∧∃G,H'=ckH (ckNumber d c) gs pl rv rs++G):=by
 rcases hk with hk|hk
 ·have hl:c.names d.kind=c.roles:=by rw[hk];rfl
  unfold dA
  rw[hk]
  refine fn_ok ev_ok rfl ?_
  repeat' ((conv=>whnf);first|with_reducible apply brP_of<;>intro _|refine WpS.drawn ev_ok rfl rfl ?_|with_reducible refine And.intro (AgP.mk ⟨_,rfl,rfl⟩) ?_|refine OpP.look2 _ mapT_nums keyE_s rfl rfl rfl rfl (fun a ha=>?_) (fun ha=>?_)|refine And.intro (AgP.look _ mapT_nums keyE_s rfl rfl rfl rfl rfl (by assumption) rfl rfl) ?_|refine OpP.mput (key:=d.name) (a:=d.n) mapT_nums keyE_s rfl rfl rfl rfl rfl rfl rfl rfl ?_|(refine (ckwrong0 (c:=c) (gs:=gs) (pl:=pl) (rv:=rv) (rs:=rs) (e:=20) (l:=d.line) (k:=d.col)).use [0,1,2,3,4,5,6] rfl rfl ⟨⟨_,rfl,rfl⟩,⟨_,rfl,rfl⟩,⟨_,rfl,rfl⟩,⟨_,rfl,rfl⟩,⟨_,rfl,rfl⟩,⟨_,rfl,kp⟩,⟨_,rfl,kp⟩,tU⟩ ?_;rintro _ _ ⟨rfl,G,rfl⟩;refine ⟨[],?_⟩)|(refine (ckwrong0 (c:=c) (gs:=gs) (pl:=pl) (rv:=rv) (rs:=rs) (e:=33) (l:=d.line) (k:=d.col)).use [0,1,2,3,4,5,6] rfl rfl ⟨⟨_,rfl,rfl⟩,⟨_,rfl,rfl⟩,⟨_,rfl,rfl⟩,⟨_,rfl,rfl⟩,⟨_,rfl,rfl⟩,⟨_,rfl,kp⟩,⟨_,rfl,kp⟩,tU⟩ ?_;rintro _ _ ⟨rfl,G,rfl⟩;refine ⟨[],?_⟩))
  all_goals (try conv=>whnf)
  ·rw[ckNum_a hl ha];exact ⟨rfl,_,rfl⟩
  ·rename_i h3
   rw[ckNum_b hl ha h3];exact ⟨rfl,_,rfl⟩
  ·rename_i h3
   rw[ckNum_c hl ha h3,aput_new ha,if_pos hk];exact ⟨rfl,_,rfl⟩
 ·have hl:c.names d.kind=c.labels:=by rw[hk];rfl
  unfold dA
  rw[hk]
  refine fn_ok ev_ok rfl ?_
  repeat' ((conv=>whnf);first|with_reducible apply brP_of<;>intro _|refine WpS.drawn ev_ok rfl rfl ?_|with_reducible refine And.intro (AgP.mk ⟨_,rfl,rfl⟩) ?_|refine OpP.look2 _ mapT_nums keyE_s rfl rfl rfl rfl (fun a ha=>?_) (fun ha=>?_)|refine And.intro (AgP.look _ mapT_nums keyE_s rfl rfl rfl rfl rfl (by assumption) rfl rfl) ?_|refine OpP.mput (key:=d.name) (a:=d.n) mapT_nums keyE_s rfl rfl rfl rfl rfl rfl rfl rfl ?_|(refine (ckwrong0 (c:=c) (gs:=gs) (pl:=pl) (rv:=rv) (rs:=rs) (e:=20) (l:=d.line) (k:=d.col)).use [0,1,2,3,4,5,6] rfl rfl ⟨⟨_,rfl,rfl⟩,⟨_,rfl,rfl⟩,⟨_,rfl,rfl⟩,⟨_,rfl,rfl⟩,⟨_,rfl,rfl⟩,⟨_,rfl,kp⟩,⟨_,rfl,kp⟩,tU⟩ ?_;rintro _ _ ⟨rfl,G,rfl⟩;refine ⟨[],?_⟩)|(refine (ckwrong0 (c:=c) (gs:=gs) (pl:=pl) (rv:=rv) (rs:=rs) (e:=33) (l:=d.line) (k:=d.col)).use [0,1,2,3,4,5,6] rfl rfl ⟨⟨_,rfl,rfl⟩,⟨_,rfl,rfl⟩,⟨_,rfl,rfl⟩,⟨_,rfl,rfl⟩,⟨_,rfl,rfl⟩,⟨_,rfl,kp⟩,⟨_,rfl,kp⟩,tU⟩ ?_;rintro _ _ ⟨rfl,G,rfl⟩;refine ⟨[],?_⟩))
  all_goals (try conv=>whnf)
  ·rw[ckNum_a hl ha];exact ⟨rfl,_,rfl⟩
  ·rename_i h3
   rw[ckNum_b hl ha h3];exact ⟨rfl,_,rfl⟩
  ·rename_i h3
   rw[ckNum_c hl ha h3,aput_new ha,if_neg (by omega)];exact ⟨rfl,_,rfl⟩
theorem bxOk_rc(b:Bx):rcOk b.x0 b.y0 b.x1 b.y1=bxOk b:=by
 unfold rcOk bxOk
 rw[decide_eq_decide]
 omega
theorem ckboxes{R:Res}{oa:Option Addr}{m:Nat}{l:List Bx}(h:RdV Tryz.prog R tBx 4 oa (fun b=>.agg (bxC b).toArray) l)(hl:l.length≤1000000):CP [] 315 [.lit (.slice oa l.length m)] [.res R] (fun v H'=>v=bA (l.all bxOk)∧∃G,H'=.res R::G):=by
 refine fn_ok ev_ok rfl ?_
 conv=>whnf
 refine loopP ev_ok rfl (fun k:Nat=>[(5,.lit (.slice oa l.length m)),(6,iA l.length),(7,iA (k:Nat))]) (fun _=>[.res R]) (fun k=>k≤l.length∧l.all bxOk=(l.drop k).all bxOk) (fun k=>l.length - k) 0 ⟨Nat.zero_le _,rfl⟩ [0] ?_ ?_
 ·exact ⟨rfl,⟨⟨rfl,rfl⟩,⟨rfl,rfl⟩,⟨rfl,rfl⟩,tU⟩,⟨⟨_,rfl,kp⟩,tU⟩⟩
 ·rintro k ⟨hk0,hr⟩
  by_cases hk:k<l.length
  ·obtain ⟨a,rfl,hrd⟩:=h.at hk
   rw[List.drop_eq_getElem_cons hk,List.all_cons] at hr
   conv=>whnf
   refine brP_of (fun _=>?_) (noF hk)
   repeat' ((conv=>whnf);first|with_reducible apply brP_of<;>intro _|refine OpP.idxL ev_ok rfl rfl rfl rfl rfl hk ?_|refine OpP.loadR (i:=0) (v:=.agg [iA l[k].x0,iA l[k].y0,iA l[k].x1,iA l[k].y1]) rfl (fun w S hR=>hrd w S hR k hk) rfl rfl ?_|refine sright ?_|refine fn_ok ev_ok rfl ?_)
   all_goals (try conv=>whnf)
   all_goals
    rename_i hb
    simp only[Bool.not_eq_true',Bool.not_eq_false',Bool.not_eq_eq_eq_not,Bool.not_true,Bool.not_false,bxOk_rc] at hb
    rw[hb] at hr
   ·exact ⟨k+1,[0],⟨⟨hk,by rw[hr,Bool.true_and]⟩,by omega⟩,rfl,⟨⟨rfl,rfl⟩,⟨rfl,rfl⟩,⟨rfl,subInt rfl (wrap_in (by omega) (by omega))⟩,tU⟩,⟨⟨_,rfl,kp⟩,tU⟩⟩
   ·exact ⟨bA_eq (by rw[hr];rfl),_,rfl⟩
  ·obtain rfl:k=l.length:=by omega
   rw[List.drop_length] at hr
   conv=>whnf
   refine brP_of (noT hk) (fun _=>?_)
   conv=>whnf
   exact ⟨bA_eq (by rw[hr];rfl),_,rfl⟩
structure CkSame(c c':Ck):Prop where
 a:c'.roles=c.roles
 b:c'.labels=c.labels
 g:c'.regions=c.regions
 r:c'.rules=c.rules
 n:c'.boxes=c.boxes
theorem CkSame.refl{c:Ck}:CkSame c c:=⟨rfl,rfl,rfl,rfl,rfl⟩
theorem wrong_same{c:Ck}{e l k:Nat}:CkSame c (c.wrong e l k):=by
 unfold Ck.wrong
 split<;>exact ⟨rfl,rfl,rfl,rfl,rfl⟩
theorem CkSame.trans{a b c:Ck}(h:CkSame a b)(k:CkSame b c):CkSame a c:=⟨k.a.trans h.a,k.b.trans h.b,k.g.trans h.g,k.r.trans h.r,k.n.trans h.n⟩
theorem set_same{c:Ck}{k:Nat}{x:Who}:CkSame c (ckSet k x c).2:=by
 unfold ckSet
 simp only[]
 repeat' split
 all_goals first|exact .refl|exact wrong_same|exact wrong_same.trans wrong_same
theorem where_same{c:Ck}{x:Who}:CkSame c (ckWhere x c).2:=by
 unfold ckWhere
 repeat' split
 all_goals first|exact .refl|exact wrong_same
theorem ckwrongR{c:Ck}{b:Int}{gs:List Rgn}{pl:List (Value×List Bx)}{rv:Value}{rs:List Rue}{e l k:Nat} :
  CP [] 416 [.ptr 0 0,iA e,.agg [iA l,iA k]] (ckHb c b gs pl rv rs) (fun v H'=>v=undefV∧∃c',c'=c.wrong e l k∧CkSame c c'∧∃G,H'=ckHb c' b gs pl rv rs++G):=
 CallS.mono ckwrong fun v H' h=>⟨h.1,_,rfl,wrong_same,h.2⟩
theorem ckset'{c:Ck}{gs:List Rgn}{pl:List (Value×List Bx)}{rv:Value}{rs:List Rue}{k:Nat}{x:Who}{b:Int}(hk:k=1∨k=2)(hb:b=c.boxes) :
  CP [] 417 [.ptr 0 0,iA k,.agg (wA x)] (ckHb c b gs pl rv rs) (fun v H'=>∃n c',ckSet k x c=(n,c')∧CkSame c c'∧v=iA (n:Nat)∧∃G,H'=ckHb c' b gs pl rv rs++G):=by
 subst hb
 exact CallS.mono (ckset hk) fun v H' h=>⟨_,_,rfl,set_same,h.1,by rw[←set_same.n];exact h.2⟩
theorem ckwhere_len{c:Ck}{gs:List Rgn}{pl:List (Value×List Bx)}{x:Who}(hg:CkG c gs pl):(ckWhere x c).1.length≤1000000:=by
 unfold ckWhere
 split
 ·exact Nat.le_add_left 1 999999
 ·cases ha:assoc c.regions x.name with
  | none=>exact Nat.zero_le _
  | some l=>
    rw[hg.regs,rgn_assoc] at ha
    cases hf:gs.find? fun g=>decide (x.name=g.n) with
    | none=>rw[hf] at ha;cases ha
    | some g=>
      rw[hf] at ha
      obtain ⟨_,_,h3,_⟩:=hg.gin g (List.mem_of_find?_eq_some hf)
      have e:g.l=l:=Option.some.inj ha
      rw[←e]
      exact h3
theorem ckwhere'{c:Ck}{gs:List Rgn}{pl:List (Value×List Bx)}{rv:Value}{rs:List Rue}{x:Who}{b:Int}(hg:CkG c gs pl)(hb:b=c.boxes) :
  CP [] 418 [.ptr 0 0,.agg (wA x)] (ckHb c b gs pl rv rs) (fun v H'=>∃l c' A m pl',ckWhere x c=(l,c')∧CkSame c c'∧v=.lit (.slice A l.length m)∧(∀p∈pl,p∈pl')∧(l=[]→(.slice A l.length m)=nilV)∧(l≠[]→((.slice A l.length m),l)∈pl')∧l.length≤1000000∧∃G,H'=ckHb c' b gs pl' rv rs++G):=by
 subst hb
 refine CallS.mono (ckwhere hg) ?_
 rintro v H' ⟨V,pl',rfl,hv,h1,h2,G,rfl⟩
 have hl:=ckwhere_len (x:=x) hg
 have hs:=where_same (c:=c) (x:=x)
 revert hv h2 hl hs
 generalize ckWhere x c=q
 obtain ⟨l,c'⟩:=q
 intro hv h2 hl hs
 rcases hv with ⟨rfl,h0⟩|⟨hne,a,m,rfl⟩
 ·simp only[] at h0
  subst h0
  exact ⟨[],c',none,0,pl',rfl,hs,rfl,h1,fun _=>rfl,fun h=>absurd rfl h,Nat.zero_le _,G,by rw[←hs.n];rfl⟩
 ·exact ⟨l,c',some a,m,pl',rfl,hs,rfl,h1,fun h=>absurd h hne,h2,hl,G,by rw[←hs.n];rfl⟩
theorem ru_one:∀(y:Rue),∀u∈ruC y,u.oneCell'=true:=fun y u hu=>by
 simp only[ruC,List.mem_cons,List.not_mem_nil,or_false] at hu
 rcases hu with rfl|rfl|rfl|rfl|rfl|rfl|rfl<;>rfl
def RuB(pl:List (Value×List Bx))(y:Rue):Prop:=(y.x.boxes=[]→y.v=nilV)∧(y.x.boxes≠[]→(y.v,y.x.boxes)∈pl)∧y.x.boxes.length≤1000000
theorem RuB.more{pl pl':List (Value×List Bx)}{y:Rue}(h:RuB pl y)(hs:∀p∈pl,p∈pl'):RuB pl' y:=⟨h.1,fun k=>hs _ (h.2.1 k),h.2.2⟩
structure CkI(c:Ck)(gs:List Rgn)(pl:List (Value×List Bx))(rv:Value)(rs:List Rue):Prop where
 g:CkG c gs pl
 r:c.rules=rs.map Rue.x
 b:∀y∈rs,RuB pl y
 v:(rv=nilV∧rs=[])∨∃A m,rv=.slice (some A) rs.length m
theorem CkG.more{c c':Ck}{gs:List Rgn}{pl pl':List (Value×List Bx)}(h:CkG c gs pl)(e:c'.regions=c.regions)(hs:∀p∈pl,p∈pl'):CkG c' gs pl':=
 ⟨by rw[e];exact h.regs,fun g hg=>⟨hs _ (h.gin g hg).1,(h.gin g hg).2⟩⟩
theorem ru_split{v:Value}{l:List Rue}(w:World)(S:Nat→Prop)(h:(OwnR ruC 7 tRu v l).at_ w S):stars [OwnR ruC 7 tRu v l,resNil] w S:=
 ⟨S,fun _=>False,h,⟨fun _=>False,fun _=>False,fun _ h=>h,fun _ h=>h,fun _ h _=>h,fun b=>by simp⟩,fun _ _ h=>h,fun b=>by simp⟩
theorem ru_join{v:Value}{l:List Rue}(w:World)(S:Nat→Prop)(h:stars [OwnR ruC 7 tRu v l,resNil] w S):(OwnR ruC 7 tRu v l).at_ w S:=by
 obtain ⟨S1,S2,h1,⟨T1,T2,k1,k2,_,hS2⟩,_,hS⟩:=h
 refine ⟨h1.1,fun b=>?_⟩
 rw[hS b,hS2 b]
 have e1:=h1.2 b
 have e2:=k1 b
 have e3:=k2 b
 simp only[e2,e3,or_false]
 exact e1
theorem wrong_set{c:Ck}{n e l k:Nat}:({ c with boxes:=n }:Ck).wrong e l k={ c.wrong e l k with boxes:=n }:=by
 unfold Ck.wrong
 simp only[]
 split<;>rfl
theorem ckRule_cl{c c0 c1:Ck}{d:Dc}{n1:Nat}(h6:d.kind=6)(e0:(if c.rules.length=32 then c.wrong 2 d.line d.col else c)=c0)(e1:ckSet 1 d.role c0=(n1,c1)) :
  ckRule d c={ c1 with rules:=c1.rules++[⟨d.kind,n1,0,0,0,[],0⟩] }:=by
 subst e0
 unfold ckRule
 simp only[]
 rw[if_pos h6,e1,h6]
theorem ckRule_go{c c0 c1 c2 c3 c4 c5 c6:Ck}{d:Dc}{n n1 n2:Nat}{l2:List Bx}(h6:d.kind≠6)(e0:(if c.rules.length=32 then c.wrong 2 d.line d.col else c)=c0)(e1:ckSet 1 d.role c0=(n1,c1))
  (e2:(if d.hi<d.lo∨7<d.hi then c1.wrong 33 d.line d.col else c1)=c2) (e3:ckSet 2 d.label c2=(n2,c3)) (e4:ckWhere d.wh c3=(l2,c4)) (hn:c4.boxes=n) (e5:(if 32<n+l2.length then c4.wrong 2 d.line d.col else c4)=c5) (e6:(if 16<d.zoom then c5.wrong 33 d.line d.col else c5)=c6) :
  ckRule d c={ c6 with boxes:=n+l2.length,rules:=c6.rules++[⟨d.kind,n1,d.lo,d.hi,n2,l2,d.zoom⟩] }:=by
 subst hn e0 e2 e5 e6
 unfold ckRule
 simp only[]
 rw[if_neg h6,e1]
 simp only[]
 rw[e3]
 simp only[]
 rw[e4]
 simp only[]
 by_cases h5:32<c4.boxes+l2.length
 ·by_cases hz:16<d.zoom
  ·simp only[if_pos h5,if_pos hz,wrong_set]
  ·simp only[if_pos h5,if_neg hz,wrong_set]
 ·by_cases hz:16<d.zoom
  ·simp only[if_neg h5,if_pos hz,wrong_set]
  ·simp only[if_neg h5,if_neg hz]
theorem ru_fin{c cR:Ck}{gs:List Rgn}{pl pl2:List (Value×List Bx)}{rs:List Rue}{y:Rue}{A3:Addr}{m3:Nat}(hg:CkG c gs pl)(hr:c.rules=rs.map Rue.x)(hrb:∀y∈rs,RuB pl y)(hsub:∀p∈pl,p∈pl2)(h1:cR.regions=c.regions)(h2:cR.rules=c.rules++[y.x])(hy:RuB pl2 y) :
  CkI cR gs pl2 (.slice (some A3) (rs.length+1) m3) (rs++[y]):=
 ⟨hg.more h1 hsub,by rw[h2,hr];simp,fun z hz=>by
  rcases List.mem_append.1 hz with h|h
  ·exact (hrb z h).more hsub
  ·rw[List.mem_singleton.1 h];exact hy,.inr ⟨A3,m3,by simp⟩⟩
theorem ckrule'{c:Ck}{gs:List Rgn}{pl:List (Value×List Bx)}{rv:Value}{rs:List Rue}{d:Dc}{v:Value}{c':Ck}{b:Int}(hi:CkI c gs pl rv rs)(h32:c.rules.length≤32)(hb:c.boxes≤32)(h0:c=c')(hsm:CkSame c c')(hbx:b=c.boxes) :
  CP [] 311 [.ptr 0 0,.agg (dA d v)] (ckHb c' b gs pl rv rs) (fun u H'=>u=undefV∧∃pl' rv' rs',CkI (ckRule d c) gs pl' rv' rs'∧∃G,H'=ckH (ckRule d c) gs pl' rv' rs'++G):=by
 obtain ⟨hg,hr,hrb,hv⟩:=hi
 have hrl:rs.length≤32:=by rw[hr,List.length_map] at h32;exact h32
 clear h32
 rcases hv with ⟨rfl,rfl⟩|⟨A,m,rfl⟩
 ·refine fn_ok ev_ok rfl ?_
  repeat' ((conv=>whnf);first|with_reducible apply brP_of<;>intro _|refine WpS.drawn ev_ok rfl rfl ?_|with_reducible refine And.intro (AgP.mk ⟨_,rfl,rfl⟩) ?_|(refine (ckwrongR (c:=c') (b:=_) (gs:=gs) (pl:=_) (rv:=nilV) (rs:=[]) (e:=2) (l:=d.line) (k:=d.col)).use [0,1,2,3,4,5,6] rfl rfl ⟨⟨_,rfl,rfl⟩,⟨_,rfl,rfl⟩,⟨_,rfl,rfl⟩,⟨_,rfl,rfl⟩,⟨_,rfl,rfl⟩,⟨_,rfl,kp⟩,⟨_,rfl,kp⟩,tU⟩ ?_;rintro _ _ ⟨rfl,c',hc',hsw,G,rfl⟩;replace hsm:=hsm.trans hsw;refine ⟨[],?_⟩)|(refine (ckwrongR (c:=c') (b:=_) (gs:=gs) (pl:=_) (rv:=nilV) (rs:=[]) (e:=33) (l:=d.line) (k:=d.col)).use [0,1,2,3,4,5,6] rfl rfl ⟨⟨_,rfl,rfl⟩,⟨_,rfl,rfl⟩,⟨_,rfl,rfl⟩,⟨_,rfl,rfl⟩,⟨_,rfl,rfl⟩,⟨_,rfl,kp⟩,⟨_,rfl,kp⟩,tU⟩ ?_;rintro _ _ ⟨rfl,c',hc',hsw,G,rfl⟩;replace hsm:=hsm.trans hsw;refine ⟨[],?_⟩)|(refine (ckset' (c:=c') (b:=b) (gs:=gs) (pl:=pl) (rv:=nilV) (rs:=[]) (k:=1) (x:=d.role) (by omega) (by rw[hsm.n];exact hbx)).use [0,1,2,3,4,5,6] rfl rfl ⟨⟨_,rfl,rfl⟩,⟨_,rfl,rfl⟩,⟨_,rfl,rfl⟩,⟨_,rfl,rfl⟩,⟨_,rfl,rfl⟩,⟨_,rfl,kp⟩,⟨_,rfl,kp⟩,tU⟩ ?_;rintro _ _ ⟨n1,c',hs1,hsw,rfl,G,rfl⟩;replace hsm:=hsm.trans hsw;refine ⟨[],?_⟩)|(refine (ckset' (c:=c') (b:=b) (gs:=gs) (pl:=pl) (rv:=nilV) (rs:=[]) (k:=2) (x:=d.label) (by omega) (by rw[hsm.n];exact hbx)).use [0,1,2,3,4,5,6] rfl rfl ⟨⟨_,rfl,rfl⟩,⟨_,rfl,rfl⟩,⟨_,rfl,rfl⟩,⟨_,rfl,rfl⟩,⟨_,rfl,rfl⟩,⟨_,rfl,kp⟩,⟨_,rfl,kp⟩,tU⟩ ?_;rintro _ _ ⟨n2,c',hs2,hsw,rfl,G,rfl⟩;replace hsm:=hsm.trans hsw;refine ⟨[],?_⟩)|(refine (ckwhere' (c:=c') (b:=b) (gs:=gs) (pl:=pl) (rv:=nilV) (rs:=[]) (x:=d.wh) (hg.more hsm.g fun _ h=>h) (by rw[hsm.n];exact hbx)).use [0,1,2,3,4,5,6] rfl rfl ⟨⟨_,rfl,rfl⟩,⟨_,rfl,rfl⟩,⟨_,rfl,rfl⟩,⟨_,rfl,rfl⟩,⟨_,rfl,rfl⟩,⟨_,rfl,kp⟩,⟨_,rfl,kp⟩,tU⟩ ?_;rintro _ _ ⟨l2,c',A2,m2,pl2,hsb,hsw,rfl,hsub,hnl,hin,hl2,G,rfl⟩;replace hsm:=hsm.trans hsw;refine ⟨[],?_⟩)|(refine AppP.om (OpM.appL ev_ok app_ru ruC_len (by decide) ru_one (i:=6) (y:=⟨⟨d.kind,n1,0,0,0,[],0⟩,none,0⟩) (l:=[]) (v:=nilV) (R1:=resNil) (R':=fun v'=>OwnR ruC 7 tRu v' ([]++[⟨⟨d.kind,n1,0,0,0,[],0⟩,none,0⟩])) rfl rfl rfl rfl rfl rfl rfl ru_split (fun v'=>ru_join) (by decide) ?_);intro A3 m3)|(refine AppP.om (OpM.appL ev_ok app_ru ruC_len (by decide) ru_one (i:=6) (y:=⟨⟨d.kind,n1,d.lo,d.hi,n2,l2,d.zoom⟩,A2,m2⟩) (l:=[]) (v:=nilV) (R1:=resNil) (R':=fun v'=>OwnR ruC 7 tRu v' ([]++[⟨⟨d.kind,n1,d.lo,d.hi,n2,l2,d.zoom⟩,A2,m2⟩])) rfl rfl rfl rfl rfl rfl rfl ru_split (fun v'=>ru_join) (by decide) ?_);intro A3 m3))
  all_goals (try conv=>whnf)
  all_goals
   refine ⟨rfl,?_⟩
   subst h0
   subst hbx
   simp only[decide_eq_true_eq,decide_eq_false_iff_not,beq_iff_eq,beq_eq_false_iff_ne] at *
   subst_vars
   first
    | (have hR:=ckRule_cl (d:=d) (c:=c) (by omega) (by first|(refine if_neg ?_;rw[hr];simp;done)|(refine if_neg ?_;rw[hr,List.length_map];omega)|(refine if_pos ?_;rw[hr,List.length_map];omega)) hs1
       refine ⟨pl,_,_,ru_fin (A3:=A3) (m3:=m3) (y:=⟨⟨d.kind,n1,0,0,0,[],0⟩,none,0⟩) hg hr hrb (fun _ h=>h) (by rw[hR];exact hsm.g) (by rw[hR];exact congrArg (·++_) hsm.r) ⟨fun _=>rfl,fun h=>absurd rfl h,Nat.zero_le _⟩,?_⟩
       rw[hR,←hsm.n]
       exact ⟨_,rfl⟩)
    | (have hW:IntKind.i64.wrap (↑c.boxes+↑l2.length)=((c.boxes+l2.length:Nat):Int):=(wrap_in (by omega) (by omega)).trans (by omega)
       have hR:=ckRule_go (d:=d) (c:=c) (n:=c.boxes) (by omega) (by first|(refine if_neg ?_;rw[hr];simp;done)|(refine if_neg ?_;rw[hr,List.length_map];omega)|(refine if_pos ?_;rw[hr,List.length_map];omega)) hs1 (by first|(refine if_neg ?_;omega)|(refine if_pos ?_;omega)) hs2 hsb (by first|exact hsm.n|(have e:=hsm.n;rw[wrong_boxes] at e;exact e)|(have e:=hsm.n;rw[wrong_boxes,wrong_boxes] at e;exact e)) (by first|(refine if_neg ?_;omega)|(refine if_pos ?_;omega)) (by first|(refine if_neg ?_;omega)|(refine if_pos ?_;omega))
       refine ⟨pl2,_,_,ru_fin (A3:=A3) (m3:=m3) (y:=⟨⟨d.kind,n1,d.lo,d.hi,n2,l2,d.zoom⟩,A2,m2⟩) hg hr hrb hsub (by rw[hR];exact hsm.g) (by rw[hR];exact congrArg (·++_) hsm.r) ⟨hnl,hin,hl2⟩,?_⟩
       rw[hR,hW]
       exact ⟨_,rfl⟩)
 ·refine fn_ok ev_ok rfl ?_
  repeat' ((conv=>whnf);first|with_reducible apply brP_of<;>intro _|refine WpS.drawn ev_ok rfl rfl ?_|with_reducible refine And.intro (AgP.mk ⟨_,rfl,rfl⟩) ?_|(refine (ckwrongR (c:=c') (b:=_) (gs:=gs) (pl:=_) (rv:=(.slice (some A) rs.length m)) (rs:=rs) (e:=2) (l:=d.line) (k:=d.col)).use [0,1,2,3,4,5,6] rfl rfl ⟨⟨_,rfl,rfl⟩,⟨_,rfl,rfl⟩,⟨_,rfl,rfl⟩,⟨_,rfl,rfl⟩,⟨_,rfl,rfl⟩,⟨_,rfl,kp⟩,⟨_,rfl,kp⟩,tU⟩ ?_;rintro _ _ ⟨rfl,c',hc',hsw,G,rfl⟩;replace hsm:=hsm.trans hsw;refine ⟨[],?_⟩)|(refine (ckwrongR (c:=c') (b:=_) (gs:=gs) (pl:=_) (rv:=(.slice (some A) rs.length m)) (rs:=rs) (e:=33) (l:=d.line) (k:=d.col)).use [0,1,2,3,4,5,6] rfl rfl ⟨⟨_,rfl,rfl⟩,⟨_,rfl,rfl⟩,⟨_,rfl,rfl⟩,⟨_,rfl,rfl⟩,⟨_,rfl,rfl⟩,⟨_,rfl,kp⟩,⟨_,rfl,kp⟩,tU⟩ ?_;rintro _ _ ⟨rfl,c',hc',hsw,G,rfl⟩;replace hsm:=hsm.trans hsw;refine ⟨[],?_⟩)|(refine (ckset' (c:=c') (b:=b) (gs:=gs) (pl:=pl) (rv:=(.slice (some A) rs.length m)) (rs:=rs) (k:=1) (x:=d.role) (by omega) (by rw[hsm.n];exact hbx)).use [0,1,2,3,4,5,6] rfl rfl ⟨⟨_,rfl,rfl⟩,⟨_,rfl,rfl⟩,⟨_,rfl,rfl⟩,⟨_,rfl,rfl⟩,⟨_,rfl,rfl⟩,⟨_,rfl,kp⟩,⟨_,rfl,kp⟩,tU⟩ ?_;rintro _ _ ⟨n1,c',hs1,hsw,rfl,G,rfl⟩;replace hsm:=hsm.trans hsw;refine ⟨[],?_⟩)|(refine (ckset' (c:=c') (b:=b) (gs:=gs) (pl:=pl) (rv:=(.slice (some A) rs.length m)) (rs:=rs) (k:=2) (x:=d.label) (by omega) (by rw[hsm.n];exact hbx)).use [0,1,2,3,4,5,6] rfl rfl ⟨⟨_,rfl,rfl⟩,⟨_,rfl,rfl⟩,⟨_,rfl,rfl⟩,⟨_,rfl,rfl⟩,⟨_,rfl,rfl⟩,⟨_,rfl,kp⟩,⟨_,rfl,kp⟩,tU⟩ ?_;rintro _ _ ⟨n2,c',hs2,hsw,rfl,G,rfl⟩;replace hsm:=hsm.trans hsw;refine ⟨[],?_⟩)|(refine (ckwhere' (c:=c') (b:=b) (gs:=gs) (pl:=pl) (rv:=(.slice (some A) rs.length m)) (rs:=rs) (x:=d.wh) (hg.more hsm.g fun _ h=>h) (by rw[hsm.n];exact hbx)).use [0,1,2,3,4,5,6] rfl rfl ⟨⟨_,rfl,rfl⟩,⟨_,rfl,rfl⟩,⟨_,rfl,rfl⟩,⟨_,rfl,rfl⟩,⟨_,rfl,rfl⟩,⟨_,rfl,kp⟩,⟨_,rfl,kp⟩,tU⟩ ?_;rintro _ _ ⟨l2,c',A2,m2,pl2,hsb,hsw,rfl,hsub,hnl,hin,hl2,G,rfl⟩;replace hsm:=hsm.trans hsw;refine ⟨[],?_⟩)|(refine OpP.om (OpM.appL ev_ok app_ru ruC_len (by decide) ru_one (i:=6) (y:=⟨⟨d.kind,n1,0,0,0,[],0⟩,none,0⟩) (l:=rs) (v:=(.slice (some A) rs.length m)) (R1:=resNil) (R':=fun v'=>OwnR ruC 7 tRu v' (rs++[⟨⟨d.kind,n1,0,0,0,[],0⟩,none,0⟩])) rfl rfl rfl rfl rfl rfl rfl ru_split (fun v'=>ru_join) (by omega) ?_);intro A3 m3)|(refine OpP.om (OpM.appL ev_ok app_ru ruC_len (by decide) ru_one (i:=6) (y:=⟨⟨d.kind,n1,d.lo,d.hi,n2,l2,d.zoom⟩,A2,m2⟩) (l:=rs) (v:=(.slice (some A) rs.length m)) (R1:=resNil) (R':=fun v'=>OwnR ruC 7 tRu v' (rs++[⟨⟨d.kind,n1,d.lo,d.hi,n2,l2,d.zoom⟩,A2,m2⟩])) rfl rfl rfl rfl rfl rfl rfl ru_split (fun v'=>ru_join) (by omega) ?_);intro A3 m3))
  all_goals (try conv=>whnf)
  all_goals
   refine ⟨rfl,?_⟩
   subst h0
   subst hbx
   simp only[decide_eq_true_eq,decide_eq_false_iff_not,beq_iff_eq,beq_eq_false_iff_ne] at *
   subst_vars
   first
    | (have hR:=ckRule_cl (d:=d) (c:=c) (by omega) (by first|(refine if_neg ?_;rw[hr];simp;done)|(refine if_neg ?_;rw[hr,List.length_map];omega)|(refine if_pos ?_;rw[hr,List.length_map];omega)) hs1
       refine ⟨pl,_,_,ru_fin (A3:=A3) (m3:=m3) (y:=⟨⟨d.kind,n1,0,0,0,[],0⟩,none,0⟩) hg hr hrb (fun _ h=>h) (by rw[hR];exact hsm.g) (by rw[hR];exact congrArg (·++_) hsm.r) ⟨fun _=>rfl,fun h=>absurd rfl h,Nat.zero_le _⟩,?_⟩
       rw[hR,←hsm.n]
       exact ⟨_,rfl⟩)
    | (have hW:IntKind.i64.wrap (↑c.boxes+↑l2.length)=((c.boxes+l2.length:Nat):Int):=(wrap_in (by omega) (by omega)).trans (by omega)
       have hR:=ckRule_go (d:=d) (c:=c) (n:=c.boxes) (by omega) (by first|(refine if_neg ?_;rw[hr];simp;done)|(refine if_neg ?_;rw[hr,List.length_map];omega)|(refine if_pos ?_;rw[hr,List.length_map];omega)) hs1 (by first|(refine if_neg ?_;omega)|(refine if_pos ?_;omega)) hs2 hsb (by first|exact hsm.n|(have e:=hsm.n;rw[wrong_boxes] at e;exact e)|(have e:=hsm.n;rw[wrong_boxes,wrong_boxes] at e;exact e)) (by first|(refine if_neg ?_;omega)|(refine if_pos ?_;omega)) (by first|(refine if_neg ?_;omega)|(refine if_pos ?_;omega))
       refine ⟨pl2,_,_,ru_fin (A3:=A3) (m3:=m3) (y:=⟨⟨d.kind,n1,d.lo,d.hi,n2,l2,d.zoom⟩,A2,m2⟩) hg hr hrb hsub (by rw[hR];exact hsm.g) (by rw[hR];exact congrArg (·++_) hsm.r) ⟨hnl,hin,hl2⟩,?_⟩
       rw[hR,hW]
       exact ⟨_,rfl⟩)
theorem ckrule{c:Ck}{gs:List Rgn}{pl:List (Value×List Bx)}{rv:Value}{rs:List Rue}{d:Dc}{v:Value}(hi:CkI c gs pl rv rs)(h32:c.rules.length≤32)(hb:c.boxes≤32) :
  CP [] 311 [.ptr 0 0,.agg (dA d v)] (ckH c gs pl rv rs) (fun u H'=>u=undefV∧∃pl' rv' rs',CkI (ckRule d c) gs pl' rv' rs'∧∃G,H'=ckH (ckRule d c) gs pl' rv' rs'++G):=ckrule' hi h32 hb rfl .refl rfl
structure BxR(R:Res)(oa:Option Addr)(l:List Bx):Prop where
 rd:RdV Tryz.prog R tBx 4 oa (fun b=>.agg (bxC b).toArray) l
 lay:l≠[]→∀w S,R.at_ w S→∃b off,oa=some ⟨b,off,none⟩∧Lay w b off (l.flatMap bxC)
theorem ckregion{c:Ck}{gs:List Rgn}{pl:List (Value×List Bx)}{rv:Value}{rs:List Rue}{d:Dc}{R:Res}{oa:Option Addr}{m:Nat}(hi:CkI c gs pl rv rs)(h:BxR R oa d.boxes)(hne:d.boxes≠[])(hl:d.boxes.length≤1000000) :
  CP [] 313 [.ptr 0 0,.agg (dA d (.slice oa d.boxes.length m))] (ckH c gs pl rv rs++[.res R]) (fun u H'=>u=undefV∧∃gs' pl',CkI (ckRegion d c) gs' pl' rv rs∧∃G,H'=ckH (ckRegion d c) gs' pl' rv rs++.res R::G):=by
 obtain ⟨a0,rfl,_⟩:=h.rd.at (k:=0) (List.length_pos_iff.2 hne)
 cases ha:aget d.name (gs.map fun g=>(g.n,g.v)) with
 | some V=>
   obtain ⟨l,a,n,rfl,_,_,_,has⟩:=rgn_some hi.g ha
   have hR:ckRegion d c=c.wrong 20 d.line d.col:=by unfold ckRegion;rw[has];rfl
   rw[hR]
   refine fn_ok ev_ok rfl ?_
   repeat' ((conv=>whnf);first|with_reducible apply brP_of<;>intro _|refine WpS.drawn ev_ok rfl rfl ?_|with_reducible refine And.intro (AgP.mk ⟨_,rfl,rfl⟩) ?_|refine OpP.look2 _ mapT_regs keyE_s rfl rfl rfl rfl (fun b hb=>?_) (fun hb=>by rw[ha] at hb;cases hb)|refine And.intro (AgP.look _ mapT_regs keyE_s rfl rfl rfl rfl rfl (by assumption) rfl rfl) ?_|(obtain rfl:b=.slice (some a) l.length n:=by rw[ha] at hb;exact (Option.some.inj hb).symm)|(refine (ckwrong0 (c:=c) (gs:=gs) (pl:=pl) (rv:=rv) (rs:=rs) (e:=20) (l:=d.line) (k:=d.col)).use [0,1,2,3,4,5,6] rfl rfl ⟨⟨_,rfl,rfl⟩,⟨_,rfl,rfl⟩,⟨_,rfl,rfl⟩,⟨_,rfl,rfl⟩,⟨_,rfl,rfl⟩,⟨_,rfl,kp⟩,⟨_,rfl,kp⟩,tU⟩ ?_;rintro _ _ ⟨rfl,G,rfl⟩;refine ⟨[],?_⟩))
   all_goals (try conv=>whnf)
   exact ⟨rfl,gs,pl,⟨hi.g.more wrong_same.g fun _ h=>h,wrong_same.r.trans hi.r,hi.b,hi.v⟩,_,rfl⟩
 | none=>
   have hn:=rgn_none hi.g ha
   cases hbb:d.boxes.all bxOk with
   | false=>
     have hR:ckRegion d c=c.wrong 33 d.line d.col:=by unfold ckRegion;rw[hn,hbb];rfl
     rw[hR]
     refine fn_ok ev_ok rfl ?_
     repeat' ((conv=>whnf);first|with_reducible apply brP_of<;>intro _|refine WpS.drawn ev_ok rfl rfl ?_|with_reducible refine And.intro (AgP.mk ⟨_,rfl,rfl⟩) ?_|refine OpP.look2 _ mapT_regs keyE_s rfl rfl rfl rfl (fun b hb=>by rw[ha] at hb;cases hb) (fun hb=>?_)|refine And.intro (AgP.look _ mapT_regs keyE_s rfl rfl rfl rfl rfl (by assumption) rfl rfl) ?_|(refine (ckboxes (m:=m) h.rd hl).use [7] rfl rfl ⟨⟨_,rfl,kp⟩,tU⟩ ?_;rintro _ _ ⟨rfl,G,rfl⟩;refine ⟨[],?_⟩;rw[hbb])|(refine (ckwrong0 (c:=c) (gs:=gs) (pl:=pl) (rv:=rv) (rs:=rs) (e:=33) (l:=d.line) (k:=d.col)).use [0,1,2,3,4,5,6] rfl rfl ⟨⟨_,rfl,rfl⟩,⟨_,rfl,rfl⟩,⟨_,rfl,rfl⟩,⟨_,rfl,rfl⟩,⟨_,rfl,rfl⟩,⟨_,rfl,kp⟩,⟨_,rfl,kp⟩,tU⟩ ?_;rintro _ _ ⟨rfl,G,rfl⟩;refine ⟨[],?_⟩))
     all_goals (try conv=>whnf)
     exact ⟨rfl,gs,pl,⟨hi.g.more wrong_same.g fun _ h=>h,wrong_same.r.trans hi.r,hi.b,hi.v⟩,_,rfl⟩
   | true=>
     have hR:ckRegion d c={ c with regions:=c.regions++[(d.name,d.boxes)] }:=by unfold ckRegion;rw[hn,hbb];rfl
     rw[hR]
     refine fn_ok ev_ok rfl ?_
     repeat' ((conv=>whnf);first|with_reducible apply brP_of<;>intro _|refine WpS.drawn ev_ok rfl rfl ?_|with_reducible refine And.intro (AgP.mk ⟨_,rfl,rfl⟩) ?_|refine OpP.look2 _ mapT_regs keyE_s rfl rfl rfl rfl (fun b hb=>by rw[ha] at hb;cases hb) (fun hb=>?_)|refine And.intro (AgP.look _ mapT_regs keyE_s rfl rfl rfl rfl rfl (by assumption) rfl rfl) ?_|(refine (ckboxes (m:=m) h.rd hl).use [7] rfl rfl ⟨⟨_,rfl,kp⟩,tU⟩ ?_;rintro _ _ ⟨rfl,G,rfl⟩;refine ⟨[],?_⟩;rw[hbb])|(refine OpP.om (OpM.appNil ev_ok app_bx bxC_len (by decide) bx_one (i:=5) (j:=7) (l:=d.boxes) (R':=fun v'=>boxPool (pl++[(v',d.boxes)])) rfl rfl rfl hne rfl rfl (h.lay hne) (fun v' w S1 S2 h1 h2 hd=>pool_snoc w S1 S2 h1 h2 hd) (by omega) ?_);intro A n))
     repeat' ((conv=>whnf);first|with_reducible apply brP_of<;>intro _|refine WpS.drawn ev_ok rfl rfl ?_|with_reducible refine And.intro (AgP.mk ⟨_,rfl,rfl⟩) ?_|refine OpP.mput (key:=d.name) (a:=(.slice (some A) d.boxes.length n:Value)) mapT_regs keyE_s rfl rfl rfl rfl rfl rfl rfl rfl ?_)
     all_goals (try conv=>whnf)
     refine ⟨rfl,gs++[⟨d.name,.slice (some A) d.boxes.length n,d.boxes⟩],pl++[(.slice (some A) d.boxes.length n,d.boxes)],⟨⟨by rw[hi.g.regs];simp,fun g hg=>?_⟩,hi.r,fun y hy=>(hi.b y hy).more fun p hp=>by simp[hp],hi.v⟩,?_⟩
     ·rcases List.mem_append.1 hg with k|k
      ·obtain ⟨k1,k2⟩:=hi.g.gin g k
       exact ⟨by simp[k1],k2⟩
      ·rw[List.mem_singleton.1 k]
       exact ⟨by simp,hne,hl,_,_,rfl⟩
     ·rw[aput_new ha]
      have e:(gs.map fun g=>(g.n,g.v))++[(d.name,(.slice (some A) d.boxes.length n:Value))]=(gs++[(⟨d.name,.slice (some A) d.boxes.length n,d.boxes⟩:Rgn)]).map fun g=>(g.n,g.v):=by simp
      rw[e]
      exact ⟨_,rfl⟩
theorem num_same{d:Dc}{c:Ck}:(ckNumber d c).regions=c.regions∧(ckNumber d c).rules=c.rules:=by
 unfold ckNumber
 repeat' split
 all_goals first|exact ⟨rfl,rfl⟩|exact ⟨wrong_same.g,wrong_same.r⟩
theorem ckdecl{c:Ck}{gs:List Rgn}{pl:List (Value×List Bx)}{rv:Value}{rs:List Rue}{d:Dc}{R:Res}{oa:Option Addr}{m:Nat}(hi:CkI c gs pl rv rs)(h32:c.rules.length≤32)(hb:c.boxes≤32)(hm:mayD d=true)(h:BxR R oa d.boxes)(hl:d.boxes.length≤1000000) :
  CP [] 221 [.ptr 0 0,.agg (dA d (.slice oa d.boxes.length m))] (ckH c gs pl rv rs++[.res R]) (fun u H'=>u=undefV∧∃gs' pl' rv' rs',CkI (ckDecl d c) gs' pl' rv' rs'∧∃G,H'=ckH (ckDecl d c) gs' pl' rv' rs'++.res R::G):=by
 have h3:d.kind=3→d.boxes≠[]:=fun hk=>by
  unfold mayD at hm
  rw[if_neg (by omega),if_pos hk] at hm
  unfold boxesR at hm
  simp only[Bool.and_eq_true,decide_eq_true_eq] at hm
  exact hm.1.1.2.2
 refine fn_ok ev_ok rfl ?_
 repeat' ((conv=>whnf);first|with_reducible apply brP_of<;>intro _|(refine (cknumber (c:=c) (gs:=gs) (pl:=pl) (rv:=rv) (rs:=rs) (d:=d) (v:=.slice oa d.boxes.length m) (by simp only[beq_iff_eq] at *;omega)).use [0,1,2,3,4,5,6] rfl rfl ⟨⟨_,rfl,rfl⟩,⟨_,rfl,rfl⟩,⟨_,rfl,rfl⟩,⟨_,rfl,rfl⟩,⟨_,rfl,rfl⟩,⟨_,rfl,kp⟩,⟨_,rfl,kp⟩,tU⟩ ?_;rintro _ _ ⟨rfl,G,rfl⟩;refine ⟨[],?_⟩)|(refine (ckregion (m:=m) (rv:=rv) (rs:=rs) hi h (h3 (by simp only[beq_iff_eq] at *;omega)) hl).use [0,1,2,3,4,5,6,7] rfl rfl ⟨⟨_,rfl,rfl⟩,⟨_,rfl,rfl⟩,⟨_,rfl,rfl⟩,⟨_,rfl,rfl⟩,⟨_,rfl,rfl⟩,⟨_,rfl,kp⟩,⟨_,rfl,kp⟩,⟨_,rfl,kp⟩,tU⟩ ?_;rintro _ _ ⟨rfl,gs',pl',hi',G,rfl⟩;refine ⟨[],?_⟩)|(refine (ckrule (d:=d) (v:=.slice oa d.boxes.length m) hi h32 hb).use [0,1,2,3,4,5,6] rfl rfl ⟨⟨_,rfl,rfl⟩,⟨_,rfl,rfl⟩,⟨_,rfl,rfl⟩,⟨_,rfl,rfl⟩,⟨_,rfl,rfl⟩,⟨_,rfl,kp⟩,⟨_,rfl,kp⟩,tU⟩ ?_;rintro _ _ ⟨rfl,pl',rv',rs',hi',G,rfl⟩;refine ⟨[],?_⟩))
 all_goals (try conv=>whnf)
 all_goals simp only[beq_iff_eq,beq_eq_false_iff_ne] at *
 ·have e:ckDecl d c=ckNumber d c:=by unfold ckDecl;rw[if_pos (by omega)]
  rw[e]
  exact ⟨tU,gs,pl,rv,rs,⟨hi.g.more num_same.1 fun _ h=>h,num_same.2.trans hi.r,hi.b,hi.v⟩,_,rfl⟩
 ·have e:ckDecl d c=ckNumber d c:=by unfold ckDecl;rw[if_pos (by omega)]
  rw[e]
  exact ⟨tU,gs,pl,rv,rs,⟨hi.g.more num_same.1 fun _ h=>h,num_same.2.trans hi.r,hi.b,hi.v⟩,_,rfl⟩
 ·have e:ckDecl d c=ckRegion d c:=by unfold ckDecl;rw[if_neg (by omega),if_pos (by omega)]
  rw[e]
  exact ⟨tU,gs',pl',rv,rs,hi',_,rfl⟩
 ·have e:ckDecl d c=ckRule d c:=by unfold ckDecl;rw[if_neg (by omega),if_neg (by omega)]
  rw[e]
  exact ⟨tU,gs,pl',rv',rs',hi',_,rfl⟩
theorem ckw_bad{c:Ck}{e l k:Nat}(he:e≠0):(c.wrong e l k).fault.err≠0:=by
 unfold Ck.wrong
 split
 ·exact he
 ·assumption
theorem wrong_keep{c:Ck}{e l k:Nat}(h:c.fault.err≠0):(c.wrong e l k).fault.err≠0:=by
 unfold Ck.wrong
 rw[if_neg h]
 exact h
theorem set_keep{c:Ck}{k:Nat}{x:Who}(h:c.fault.err≠0):(ckSet k x c).2.fault.err≠0:=by
 unfold ckSet
 simp only[]
 repeat' split
 all_goals first|exact h|exact wrong_keep h|exact wrong_keep (wrong_keep h)
theorem where_keep{c:Ck}{x:Who}(h:c.fault.err≠0):(ckWhere x c).2.fault.err≠0:=by
 unfold ckWhere
 repeat' split
 all_goals first|exact h|exact wrong_keep h
theorem ckRule_le{d:Dc}{c:Ck}(h32:c.rules.length≤32)(hb:c.boxes≤32)(hf:(ckRule d c).fault.err=0):(ckRule d c).rules.length≤32∧(ckRule d c).boxes≤32:=by
 obtain ⟨c0,e0⟩:∃c0,(if c.rules.length=32 then c.wrong 2 d.line d.col else c)=c0:=⟨_,rfl⟩
 obtain ⟨⟨n1,c1⟩,e1⟩:∃q,ckSet 1 d.role c0=q:=⟨_,rfl⟩
 have s0:CkSame c c0:=by rw[←e0];split;exact wrong_same;exact .refl
 have s1:CkSame c0 c1:=by have:=set_same (c:=c0) (k:=1) (x:=d.role);rw[e1] at this;exact this
 have k1:c0.fault.err≠0→c1.fault.err≠0:=fun h=>by have:=set_keep (k:=1) (x:=d.role) h;rw[e1] at this;exact this
 have k0:c.rules.length=32→c0.fault.err≠0:=fun h=>by rw[←e0,if_pos h];exact ckw_bad (by decide)
 by_cases h6:d.kind=6
 ·have hR:=ckRule_cl h6 e0 e1
  rw[hR] at hf ⊢
  have hl:c.rules.length≠32:=fun h=>k1 (k0 h) hf
  refine ⟨?_,?_⟩
  ·show (c1.rules++[_]).length≤32
   rw[List.length_append,s1.r,s0.r]
   simp only[List.length_cons,List.length_nil]
   omega
  ·show c1.boxes≤32
   rw[s1.n,s0.n]
   exact hb
 ·obtain ⟨c2,e2⟩:∃c2,(if d.hi<d.lo∨7<d.hi then c1.wrong 33 d.line d.col else c1)=c2:=⟨_,rfl⟩
  obtain ⟨⟨n2,c3⟩,e3⟩:∃q,ckSet 2 d.label c2=q:=⟨_,rfl⟩
  obtain ⟨⟨l2,c4⟩,e4⟩:∃q,ckWhere d.wh c3=q:=⟨_,rfl⟩
  obtain ⟨c5,e5⟩:∃c5,(if 32<c4.boxes+l2.length then c4.wrong 2 d.line d.col else c4)=c5:=⟨_,rfl⟩
  obtain ⟨c6,e6⟩:∃c6,(if 16<d.zoom then c5.wrong 33 d.line d.col else c5)=c6:=⟨_,rfl⟩
  have hR:=ckRule_go h6 e0 e1 e2 e3 e4 rfl e5 e6
  have s2:CkSame c1 c2:=by rw[←e2];split;exact wrong_same;exact .refl
  have s3:CkSame c2 c3:=by have:=set_same (c:=c2) (k:=2) (x:=d.label);rw[e3] at this;exact this
  have s4:CkSame c3 c4:=by have:=where_same (c:=c3) (x:=d.wh);rw[e4] at this;exact this
  have s5:CkSame c4 c5:=by rw[←e5];split;exact wrong_same;exact .refl
  have s6:CkSame c5 c6:=by rw[←e6];split;exact wrong_same;exact .refl
  have k2:c1.fault.err≠0→c2.fault.err≠0:=fun h=>by rw[←e2];split;exact wrong_keep h;exact h
  have k3:c2.fault.err≠0→c3.fault.err≠0:=fun h=>by have:=set_keep (k:=2) (x:=d.label) h;rw[e3] at this;exact this
  have k4:c3.fault.err≠0→c4.fault.err≠0:=fun h=>by have:=where_keep (x:=d.wh) h;rw[e4] at this;exact this
  have k5:c4.fault.err≠0→c5.fault.err≠0:=fun h=>by rw[←e5];split;exact wrong_keep h;exact h
  have k6:c5.fault.err≠0→c6.fault.err≠0:=fun h=>by rw[←e6];split;exact wrong_keep h;exact h
  have k7:32<c4.boxes+l2.length→c5.fault.err≠0:=fun h=>by rw[←e5,if_pos h];exact ckw_bad (by decide)
  rw[hR] at hf ⊢
  have hl:c.rules.length≠32:=fun h=>k6 (k5 (k4 (k3 (k2 (k1 (k0 h)))))) hf
  have hbx:¬32<c4.boxes+l2.length:=fun h=>k6 (k7 h) hf
  refine ⟨?_,?_⟩
  ·show (c6.rules++[_]).length≤32
   rw[List.length_append,s6.r,s5.r,s4.r,s3.r,s2.r,s1.r,s0.r]
   simp only[List.length_cons,List.length_nil]
   omega
  ·show c4.boxes+l2.length≤32
   omega
theorem ckDecl_le{d:Dc}{c:Ck}(h32:c.rules.length≤32)(hb:c.boxes≤32)(hf:(ckDecl d c).fault.err=0):(ckDecl d c).rules.length≤32∧(ckDecl d c).boxes≤32:=by
 unfold ckDecl at hf ⊢
 split at hf
 ·rename_i hk
  rw[if_pos hk,num_same.2]
  refine ⟨h32,?_⟩
  unfold ckNumber
  repeat' split
  all_goals first|exact hb|(rw[wrong_boxes];exact hb)
 ·rename_i hk
  rw[if_neg hk]
  split at hf
  ·rename_i hk3
   rw[if_pos hk3]
   unfold ckRegion
   repeat' split
   all_goals first|exact ⟨h32,hb⟩|(rw[wrong_boxes,wrong_same.r];exact ⟨h32,hb⟩)
  ·rename_i hk3
   rw[if_neg hk3]
   exact ckRule_le h32 hb hf
theorem Ev.CallS.of_callsR{P:Program}{S:List Nat}{E:Env}(hE:EnvOk P E){f:Nat}{fn:Func}(hf:E.fn f=some fn){args:List AV}{xs:List Value}{x:Value}{H:List AObj}{K:AV→List AObj→Prop}{R:Res}(i:Nat)(hi:H[i]?=some (.res R))(ha:AV.flats args=some xs)
  (c:∀(w:World) (T:Nat→Prop),R.at_ w T→Calls P f xs.toArray w (fun e w'=>e=.returned x∧Go.RowKit.Below w.heap.size w w')) (k:K (toAV x) H):CallS P S f args H K:=⟨fun F γ w ys hR hpl hrs hys=>by
 have e:=flats_conc args xs ys.toList ha hys
 obtain rfl:ys=xs.toArray:=by rw[←e]
 obtain ⟨T,hT,_⟩:=hrs.out
 obtain ⟨S1,_,b1,_⟩:=stars_at (i:=i) (r:=R) hT (by unfold rss;rw[List.getElem?_map,hi];rfl)
 obtain ⟨F1,hR1,hb1⟩:=reframe hR hrs
 refine ⟨(hE.fn f fn hf).2 _ w,fun R hRet=>(c w S1 b1).mono ?_⟩
 rintro r w' ⟨rfl,hb⟩
 obtain ⟨h1,h2⟩:=hb1 _ _ _ (hR1.grown hb)
 exact hRet _ H γ x w' k (conc_flat _ x (toAV_flat x)) ⟨h1,.refl γ _,hpl,h2 H (.refl _)⟩⟩
end Go.Proofs.YtmbdghclhpboaaaGreat
