/- Part of the proof: Rf12d Rf12e RulF Rf22. Conditions: as each states. -/
import Derived.Test.YtmbdghclhpboaaaGreatPw39
set_option linter.all false
set_option maxRecDepth 100000
set_option maxHeartbeats 8000000
namespace Go.Proofs.YtmbdghclhpboaaaGreat
open Ev Go.RowKit
theorem MA{R:aH}{d:Dc}{A:Option Addr}{m:Nat}(h:rf R A d.boxes)(hl:d.boxes.length<=1000000)(hm:fx d=true):CP [] 98 [.agg (dA d (.slice A d.boxes.length m))] [.res R] (kl (bA true) [.res R]):=by
 unfold fx at hm;by_cases Uh:d.kind=1\/d.kind=2
 ·rw[if_pos Uh] at hm;simp only[Bool.and_eq_true,decide_eq_true_eq,nr] at hm;obtain ⟨⟨⟨⟨hn,l1⟩,hb⟩,z1⟩,⟨⟨e1,e2,e3⟩,z2⟩,z3⟩:=hm;rcases Uh with hk|hk
  ·exact Pu h hl hk hn l1 hb z1 z2 z3 e1 e2 e3
  ·exact Pv h hl hk hn l1 hb z1 z2 z3 e1 e2 e3
 ·rw[if_neg Uh] at hm;by_cases h3:d.kind=3
  ·rw[if_pos h3] at hm;simp only[Bool.and_eq_true,decide_eq_true_eq,nr,oJ,List.all_eq_true] at hm;obtain ⟨⟨⟨⟨hn,e4⟩,gS,hb⟩,z1⟩,⟨⟨e1,e2,e3⟩,z2⟩,z3⟩:=hm;exact Pw h hl h3 hn e4 (List.length_pos_iff.2 hb) gS z1 z2 z3 e1 e2 e3
  ·rw[if_neg h3] at hm;by_cases QB:d.kind=4\/d.kind=5
   ·rw[if_pos QB] at hm;simp only[Bool.and_eq_true,decide_eq_true_eq,nq,vn,Cc] at hm;obtain ⟨⟨e5,e4,hb⟩,⟨⟨z1,l1,l2,l3⟩,z2⟩,z3,hw⟩:=hm;cases ha:d.wh.any
    ·rw[ha,Bool.false_or,decide_eq_true_eq] at hw;rcases QB with hk|hk
     ·exact JU h hl hk e4 e5 hb z1 z2 z3 l1 l2 l3 ha hw
     ·exact JV h hl hk e4 e5 hb z1 z2 z3 l1 l2 l3 ha hw
    ·rcases QB with hk|hk
     ·exact Ib h hl hk e4 e5 hb z1 z2 z3 l1 l2 l3 ha
     ·exact Ic h hl hk e4 e5 hb z1 z2 z3 l1 l2 l3 ha
   ·rw[if_neg QB] at hm;by_cases h6:d.kind=6
    ·rw[if_pos h6] at hm;simp only[Bool.and_eq_true,decide_eq_true_eq,nq,nr] at hm;obtain ⟨⟨⟨e5,e4,hb⟩,z1⟩,⟨⟨e1,e2,e3⟩,z2⟩,z3⟩:=hm;exact Px h hl h6 e4 e5 hb z1 z2 z3 e1 e2 e3
    ·rw[if_neg h6] at hm;cases hm
theorem Fa{n:Nat}{S:List Nat}{H:List af}{K:AV->List af->Prop}(k:K (bA (decide (n<=65535))) H):CP S 94 [iA n] H K:=by
 refine ag.pure ?_ (fun _=>rfl) (fun _=>rfl) k;clear k;refine ae U rfl ?_;repeat' ((conv=>whnf);first|with_reducible apply aa<;>intro _  | refine ae U rfl ?_)
 all_goals (try conv=>whnf)
 all_goals rename_i hx
 ·exact bh (by rw[decide_eq_true (Int.ofNat_le.1 (of_decide_eq_true hx))])
 ·exact bh (by rw[decide_eq_false fun h=>of_decide_eq_false hx (Int.ofNat_le.2 h)])
theorem JP{b:Bx}{S:List Nat}{H:List af}{K:AV->List af->Prop}(k:K (bA (kI b)) H):CP S 33 [.agg ((gN b).map .lit)] H K:=by
 refine ag.pure ?_ (fun _=>rfl) (fun _=>rfl) k;clear k;refine ae U rfl ?_;repeat' ((conv=>whnf);first|with_reducible apply aa<;>intro _|refine Fa (n:=b.x0) ?_|refine Fa (n:=b.x1) ?_|refine Fa (n:=b.y0) ?_|refine Fa (n:=b.y1) ?_|refine ae U rfl ?_)
 all_goals (try conv=>whnf)
 all_goals refine eB ?_
 all_goals unfold kI
 all_goals simp_all
 all_goals omega
def yh(d:Dc):Bool:=(decide (d.kind<3)&&decide (7<d.n)) || !d.boxes.all kI
def BS(pre:List Dv)(d:Dc)(r b:Nat):Option (Nat×Nat):=
 if 3<d.kind then (jk pre d r b).map fun n=>(r+1,b+n)
 else if (fB pre d.kind d.name).isSome || yh d then none else some (r,b)
def ld:List Dv->List Dv->Nat->Nat->Bool
 | _,[],_,_=>true
 | pre,d::l,r,b=>match BS pre d.x r b with
   | none=>false
   | some x=>ld (pre++[d]) l x.1 x.2
theorem DK{pre:List Dv}{d:Dc}{r b n:Nat}(h:jk pre d r b=some n)(hb:b<=32):r+1<=32/\b+n<=32:=by
 unfold jk at h;repeat' split at h
 all_goals first
  | (cases h;done)
  | (cases h;omega)
def Yx(R:aH)(o:Option Nat)(v:AV)(H':List af):Prop:=∃(y:cL) (e l c:Nat),v=.tuple [.agg ((eD y).map .lit),.agg [iA e,iA l,iA c]]/\((o=none/\e≠0)\/(o=some y.x.boxes.length/\e=0))/\∃G,H'=.res R::G
theorem RZ{R:aH}{A:Option Addr}{m c rules boxes i:Nat}{ds:List Dv}{d:Dv}(h:pY R A m ds)(hi:i<=ds.length)(hb:boxes<=1000000):CP [] 99 [.lit (.slice A i c),.agg (dA d.x d.v),iA rules,iA boxes] [.res R] (Yx R (jk (ds.take i) d.x rules boxes)):=by
 have k:=RY (c:=c) (rules:=rules) (d:=d) (h.take i) hb;rw[List.length_take,Nat.min_eq_left hi] at k;refine ag.post k ?_;rintro _ H' ⟨k,ro,lo,hi,la,zo,e,l,c,n,A',m',rfl,ho,G,rfl⟩;refine ⟨_,fP.same rfl (.refl _),⟨⟨k,ro,lo,hi,la,List.replicate n ⟨0,0,0,0⟩,zo⟩,A',m'⟩,e,l,c,?_,?_,_,rfl⟩
 ·simp only[eD,cL.v,List.length_replicate,List.map_cons,List.map_nil];first|done|rfl
 ·simp only[List.length_replicate];exact ho
theorem Qt{R:aH}{A:Option Addr}{m c i:Nat}{ds:List Dv}{k:Nat}{s:List UInt8}(h:pY R A m ds)(hi:i<=ds.length):CP [] 100 [.lit (.slice A i c),iA k,.lit (cU s)] [.res R] (kl (Nt (fB (ds.take i) k s)) [.res R]):=by
 have k1:=vi (c:=c) (k:=k) (s:=s) (h.take i);rw[List.length_take,Nat.min_eq_left hi] at k1;exact k1
structure Yc where
 i:Nat
 b:Nat
 rs:List cL
 v:Value
def Yd(R:aH)(ok:Bool)(v:AV)(H':List af):Prop:=∃(rv:AV) (e l c:Nat),v=.tuple [rv,.agg [iA e,iA l,iA c]]/\((∃A n q,rv=.lit (.slice A n q))\/∃o,rv=.slice o 0 0 (.k 0))/\(e=0↔ok=true)/\∃G,H'=.res R::G
theorem Pe{R:aH}{A:Option Addr}{m c:Nat}{ds:List Dv}(h:pY R A m ds)(hc:ds.length<=c)(hm:∀d∈ds,fx d.x=true):CP [] 35 [.lit (.slice A ds.length c)] [.res R,.res (aB eD 7 fN aO [])] (Yd R (ld [] ds 0 0)):=by
 obtain ⟨ok,fw⟩:∃ok,ok=ld [] ds 0 0:=⟨_,rfl⟩;rw[<-fw];have hn:=h.len.1;refine ae U rfl ?_;refine eP.of rfl rfl ?_;refine aF.au fun F hF=>?_;repeat' ((conv=>whnf);first|with_reducible apply aa<;>intro _|refine aJ.drawn U rfl rfl ?_|with_reducible refine And.intro (aG.mk ⟨_,rfl,rfl⟩) ?_|(show F _ _ _;subst hF;refine aF.au fun F hF=>?_)|(show F _ _ _;subst hF)|refine ae U rfl ?_)
 refine aW U rfl (fun i:Nat=>[(0,.lit (.slice A ds.length c)),(3,.ptr 2 0),(4,.lit aO),(5,iA (0:Nat)),(6,iA (i:Nat))]) (fun _=>[.res R,.res (aB eD 7 fN aO []),.cells [iA 0,iA 0,iA 0] 86]) (fun i=>i<=ds.length) (fun i=>ds.length - i) 0 (Nat.zero_le _) [0,1,2] ?_ ?_
 ·exact ⟨rfl,⟨rr,rr,rr,rr,rr,tU⟩,⟨ko,ko,⟨_,rfl,rfl⟩,tU⟩⟩
 ·intro i hi;by_cases ah:i<ds.length
  ·obtain ⟨a,rfl,bq⟩:=h.rd.at ah;have ig:ds[i]∈ds:=List.getElem_mem ah;have kR:=MA (m:=ds[i].cap) (h.bx _ ig) (h.len.2 _ ig) (hm _ ig);repeat' ((conv=>whnf);first|with_reducible apply aa<;>intro _|refine aJ.drawn U rfl rfl ?_|with_reducible refine And.intro (aG.mk ⟨_,rfl,rfl⟩) ?_|exact ck ah (by assumption)|refine ai.bJ U rfl rfl rfl rfl rfl ah ?_|refine ai.aR (i:=0) (v:=.agg (dA ds[i].x ds[i].v)) rfl (fun w S hR=>bq w S hR i ah) rfl rfl ?_|refine kR.g [0] rfl rfl ⟨ko,tU⟩ fun G=>?_|(show F _ _ _;subst hF;refine aF.au fun F hF=>?_)|(show F _ _ _;subst hF)|refine ae U rfl ?_)
   all_goals (try conv=>whnf)
   exact ⟨i+1,[0,1,2],⟨ah,Nat.sub_lt_sub_left ah (Nat.lt_succ_self _)⟩,rfl,⟨rr,rr,rr,rr,⟨rfl,aw rfl (aj (by omega) (by omega))⟩,tU⟩,⟨ko,ko,⟨_,rfl,rfl⟩,tU⟩⟩
  ·clear hi;repeat' ((conv=>whnf);first|with_reducible apply aa<;>intro _|refine aJ.drawn U rfl rfl ?_|with_reducible refine And.intro (aG.mk ⟨_,rfl,rfl⟩) ?_|exact cI ah (by assumption)|(show F _ _ _;subst hF;refine aF.au fun F hF=>?_)|(show F _ _ _;subst hF)|refine ae U rfl ?_)
   all_goals (try conv=>whnf)
   refine aW U rfl (fun x:Yc=>[(0,.lit (.slice A ds.length c)),(3,.ptr 2 0),(4,.lit x.v),(5,iA (x.b:Nat)),(7,iA (x.i:Nat))]) (fun x=>[.res R,.res (aB eD 7 fN x.v x.rs),.cells [iA 0,iA 0,iA 0] 86])
    (fun x=>x.i<=ds.length/\ld (ds.take x.i) (ds.drop x.i) x.rs.length x.b=ok/\ep x.v x.rs/\x.rs.length<=32/\x.b<=32) (fun x=>ds.length - x.i) ⟨0,0,[],aO⟩ ⟨Nat.zero_le _,fw.symm,.inl ⟨rfl,rfl⟩,by simp,by simp⟩ [0,1,2] ?_ ?_
   ·exact ⟨rfl,⟨rr,rr,rr,rr,rr,tU⟩,⟨ko,ko,⟨_,rfl,rfl⟩,tU⟩⟩
   clear ah;rintro ⟨i,b,rs,v⟩ ⟨hi,hr,hv,kU,hb⟩;simp only[] at hi hr hv kU hb;clear fw;by_cases ah:i<ds.length
   ·obtain ⟨a,rfl,bq⟩:=h.rd.at ah;have ig:ds[i]∈ds:=List.getElem_mem ah;have gS:=h.bx _ ig;have AF:=h.len.2 _ ig;rw[List.drop_eq_getElem_cons ah,ld,<-bf ah] at hr;have kr:=RZ (c:=c) (rules:=rs.length) (boxes:=b) (d:=ds[i]) h (Nat.le_of_lt ah) (by omega);have kd:=Qt (c:=c) (k:=ds[i].x.kind) (s:=ds[i].x.name) h (Nat.le_of_lt ah);obtain ⟨y,hy⟩:∃y,y=ds[i]:=⟨_,rfl⟩;rw[<-hy] at hr kr kd gS AF;have dK:=fun w S hR=>bq w S hR i ah;simp only[<-hy] at dK;clear bq ig hy;obtain ⟨o,ho⟩:∃o,o=fB (ds.take i) y.x.kind y.x.name:=⟨_,rfl⟩;obtain ⟨rn,QY⟩:∃rn,rn=jk (ds.take i) y.x rs.length b:=⟨_,rfl⟩;have GY:=fun n hx=>DK (pre:=ds.take i) (d:=y.x) (r:=rs.length) (n:=n) hx hb;rw[<-ho] at kd;rw[<-QY] at kr;simp only[<-QY] at GY;unfold BS at hr;rw[<-ho,<-QY] at hr;clear ho QY h hm;by_cases hk:3<y.x.kind
    ·rw[if_pos hk] at hr;rcases hv with ⟨rfl,rfl⟩|⟨A0,c0,rfl⟩
     ·refine aF.au fun F2 bR=>?_;repeat' ((conv=>whnf);first|with_reducible apply aa<;>intro _|refine aJ.drawn U rfl rfl ?_|with_reducible refine And.intro (aG.mk ⟨_,rfl,rfl⟩) ?_|exact ck ah (by assumption)|refine ai.bJ U rfl rfl rfl rfl rfl ah ?_|refine ai.aR (i:=0) (v:=.agg (dA y.x y.v)) rfl dK rfl rfl ?_|refine ai.It (j:=i) U rfl rfl rfl rfl rfl rfl (by omega) ?_|(refine kr.use [0] rfl rfl ⟨ko,tU⟩ ?_;rintro _ _ ⟨z,e,l,cc,rfl,hy,G,rfl⟩;refine ⟨[],?_⟩)|(refine dP.om (eU.k9 U sX mH (by decide) tA (i:=1) (y:=z) (l:=([]:List cL)) (v:=aO) (R1:=aA) (R':=fun v'=>aB eD 7 fN v' (([]:List cL)++[z])) rfl rfl rfl rfl rfl rfl rfl gD (fun v'=>iI) (by first|omega|(simp;done)) ?_);intro A2 m2)|(exfalso;rename_i hx;exact of_decide_eq_false hx (Int.ofNat_lt.2 hk))|(show F2 _ _ _;subst bR;refine aF.au fun F2 bR=>?_)|(show F2 _ _ _;subst bR)|(show F _ _ _;subst hF;refine aF.au fun F hF=>?_)|(show F _ _ _;subst hF)|refine ae U rfl ?_)
      all_goals (try conv=>whnf)
      ·rename_i hx;rcases hy with ⟨hy,he⟩|⟨_,rfl⟩
       ·rw[hy] at hr;exact ⟨_,e,l,cc,rfl,.inr ⟨_,rfl⟩,⟨fun h=>absurd h he,fun h=>by rw[<-hr] at h;cases h⟩,_,rfl⟩
       ·cases hx
      ·rename_i hx;rcases hy with ⟨_,he⟩|⟨hy,rfl⟩
       ·exact absurd (Int.ofNat.inj (by simpa using hx)) he
       ·have hz:=GY _ hy;rw[hy] at hr;exact ⟨⟨i+1,b+z.x.boxes.length,([]:List cL)++[z],.slice (some A2) (([]:List cL).length+1) m2⟩,[0,1,2],⟨⟨ah,by show ld _ _ (([]:List cL)++[z]).length _=ok;rw[List.length_append];exact hr,.inr ⟨A2,m2,by simp⟩,by rw[List.length_append];exact hz.1,hz.2⟩,Nat.sub_lt_sub_left ah (Nat.lt_succ_self _)⟩,rfl,⟨rr,rr,rr,⟨rfl,aw rfl (aj (by first|omega|(simp only[];omega)) (by first|omega|(simp only[];omega)))⟩,⟨rfl,aw rfl (aj (by first|omega|(simp only[];omega)) (by first|omega|(simp only[];omega)))⟩,tU⟩,⟨ko,ko,⟨_,rfl,rfl⟩,tU⟩⟩
     ·refine aF.au fun F2 bR=>?_;repeat' ((conv=>whnf);first|with_reducible apply aa<;>intro _|refine aJ.drawn U rfl rfl ?_|with_reducible refine And.intro (aG.mk ⟨_,rfl,rfl⟩) ?_|exact ck ah (by assumption)|refine ai.bJ U rfl rfl rfl rfl rfl ah ?_|refine ai.aR (i:=0) (v:=.agg (dA y.x y.v)) rfl dK rfl rfl ?_|refine ai.It (j:=i) U rfl rfl rfl rfl rfl rfl (by omega) ?_|(refine kr.use [0] rfl rfl ⟨ko,tU⟩ ?_;rintro _ _ ⟨z,e,l,cc,rfl,hy,G,rfl⟩;refine ⟨[],?_⟩)|(refine ai.om (eU.k9 U sX mH (by decide) tA (i:=1) (y:=z) (l:=rs) (v:=.slice (some A0) rs.length c0) (R1:=aA) (R':=fun v'=>aB eD 7 fN v' (rs++[z])) rfl rfl rfl rfl rfl rfl rfl gD (fun v'=>iI) (by first|omega|(simp;done)) ?_);intro A2 m2)|(exfalso;rename_i hx;exact of_decide_eq_false hx (Int.ofNat_lt.2 hk))|(show F2 _ _ _;subst bR;refine aF.au fun F2 bR=>?_)|(show F2 _ _ _;subst bR)|(show F _ _ _;subst hF;refine aF.au fun F hF=>?_)|(show F _ _ _;subst hF)|refine ae U rfl ?_)
      all_goals (try conv=>whnf)
      ·rename_i hx;rcases hy with ⟨hy,he⟩|⟨_,rfl⟩
       ·rw[hy] at hr;exact ⟨_,e,l,cc,rfl,.inr ⟨_,rfl⟩,⟨fun h=>absurd h he,fun h=>by rw[<-hr] at h;cases h⟩,_,rfl⟩
       ·cases hx
      ·rename_i hx;rcases hy with ⟨_,he⟩|⟨hy,rfl⟩
       ·exact absurd (Int.ofNat.inj (by simpa using hx)) he
       ·have hz:=GY _ hy;rw[hy] at hr;exact ⟨⟨i+1,b+z.x.boxes.length,rs++[z],.slice (some A2) (rs.length+1) m2⟩,[0,1,2],⟨⟨ah,by show ld _ _ (rs++[z]).length _=ok;rw[List.length_append];exact hr,.inr ⟨A2,m2,by simp⟩,by rw[List.length_append];exact hz.1,hz.2⟩,Nat.sub_lt_sub_left ah (Nat.lt_succ_self _)⟩,rfl,⟨rr,rr,rr,⟨rfl,aw rfl (aj (by first|omega|(simp only[];omega)) (by first|omega|(simp only[];omega)))⟩,⟨rfl,aw rfl (aj (by first|omega|(simp only[];omega)) (by first|omega|(simp only[];omega)))⟩,tU⟩,⟨ko,ko,⟨_,rfl,rfl⟩,tU⟩⟩
    ·rw[if_neg hk] at hr;cases o with
     | some z=>
       refine aF.au fun F2 bR=>?_;repeat' ((conv=>whnf);first|with_reducible apply aa<;>intro _|refine aJ.drawn U rfl rfl ?_|with_reducible refine And.intro (aG.mk ⟨_,rfl,rfl⟩) ?_|exact ck ah (by assumption)|refine ai.bJ U rfl rfl rfl rfl rfl ah ?_|refine ai.aR (i:=0) (v:=.agg (dA y.x y.v)) rfl dK rfl rfl ?_|refine ai.It (j:=i) U rfl rfl rfl rfl rfl rfl (by omega) ?_|refine kd.g [0] rfl rfl ⟨ko,tU⟩ fun G=>?_|(exfalso;rename_i hx;exact hk (Int.ofNat_lt.1 (of_decide_eq_true hx)))|(show F2 _ _ _;subst bR;refine aF.au fun F2 bR=>?_)|(show F2 _ _ _;subst bR)|(show F _ _ _;subst hF;refine aF.au fun F hF=>?_)|(show F _ _ _;subst hF)|refine ae U rfl ?_)
       all_goals (try conv=>whnf)
       all_goals exact ⟨_,20,y.x.line,y.x.aS,rfl,.inr ⟨_,rfl⟩,⟨fun h=>absurd h (by decide),fun h=>by rw[<-hr] at h;cases h⟩,_,rfl⟩
     | none=>
       simp only[Option.isSome_none,Bool.false_or] at hr;obtain ⟨x,yA,yc⟩:=y;simp only[Dv.v] at hr kd gS AF dK hk;refine aF.au fun F2 bR=>?_;repeat' ((conv=>whnf);first|with_reducible apply aa<;>intro _|refine aJ.drawn U rfl rfl ?_|with_reducible refine And.intro (aG.mk ⟨_,rfl,rfl⟩) ?_|exact ck ah (by assumption)|refine ai.bJ U rfl rfl rfl rfl rfl ah ?_|refine ai.aR (i:=0) (v:=.agg (dA x (.slice yA x.boxes.length yc))) rfl dK rfl rfl ?_|refine ai.It (j:=i) U rfl rfl rfl rfl rfl rfl (by omega) ?_|refine kd.g [0] rfl rfl ⟨ko,tU⟩ fun G=>?_|(exfalso;rename_i hx;exact hk (Int.ofNat_lt.1 (of_decide_eq_true hx)))|(refine aW U rfl (fun z:Nat×Bool=>[(0,.lit (.slice (some a) ds.length c)),(3,.ptr 2 0),(4,.lit v),(5,iA (b:Nat)),(7,iA (i:Nat)),(8,.ptr 3 0),(13,bA z.2),(14,iA (z.1:Nat))]) (fun _=>[.res R,.res (aB eD 7 fN v rs),.cells [iA 0,iA 0,iA 0] 86,.cells (dA x (.slice yA x.boxes.length yc)) iz]) (fun z=>z.1<=x.boxes.length/\(z.2 || !(x.boxes.drop z.1).all kI)=yh x) (fun z=>x.boxes.length - z.1) (0,true) ?_ [0,1,2,3] ⟨rfl,⟨rr,rr,rr,rr,rr,rr,rr,rr,tU⟩,⟨ko,ko,⟨_,rfl,rfl⟩,⟨_,rfl,rfl⟩,tU⟩⟩ ?_)|(refine aW U rfl (fun z:Nat×Bool=>[(0,.lit (.slice (some a) ds.length c)),(3,.ptr 2 0),(4,.lit v),(5,iA (b:Nat)),(7,iA (i:Nat)),(8,.ptr 3 0),(13,bA z.2),(14,iA (z.1:Nat))]) (fun _=>[.res R,.res (aB eD 7 fN v rs),.cells [iA 0,iA 0,iA 0] 86,.cells (dA x (.slice yA x.boxes.length yc)) iz]) (fun z=>z.1<=x.boxes.length/\(z.2 || !(x.boxes.drop z.1).all kI)=yh x) (fun z=>x.boxes.length - z.1) (0,false) ?_ [0,1,2,3] ⟨rfl,⟨rr,rr,rr,rr,rr,rr,rr,rr,tU⟩,⟨ko,ko,⟨_,rfl,rfl⟩,⟨_,rfl,rfl⟩,tU⟩⟩ ?_)|(show F2 _ _ _;subst bR;refine aF.au fun F2 bR=>?_)|(show F2 _ _ _;subst bR)|(show F _ _ _;subst hF;refine aF.au fun F hF=>?_)|(show F _ _ _;subst hF)|refine ae U rfl ?_)
       all_goals (try conv=>whnf)
       all_goals first
        | (refine ⟨Nat.zero_le _,?_⟩
           rw[List.drop_zero]
           clear hr kr kd dK gS GY
           unfold yh
           generalize x.boxes.all kI=q
           cases q<;>simp_all<;>omega)
        | skip
       all_goals
        rintro ⟨k,bad⟩ ⟨gT,uq⟩
        simp only[] at gT uq
        by_cases hq:k<x.boxes.length
        ·obtain ⟨a2,rfl,YT⟩:=gS.rd.at hq
         rw[List.drop_eq_getElem_cons hq,List.all_cons] at uq
         cases bad
         all_goals repeat' ((conv=>whnf);first|with_reducible apply aa<;>intro _|refine aJ.drawn U rfl rfl ?_|with_reducible refine And.intro (aG.mk ⟨_,rfl,rfl⟩) ?_|exact ck hq (by assumption)|refine ai.bJ U rfl rfl rfl rfl rfl hq ?_|refine ai.aR (i:=0) (v:=.agg ((gN x.boxes[k]).map .lit)) rfl (fun w S hR=>YT w S hR k hq) rfl rfl ?_|refine JP ?_|(show F2 _ _ _;subst bR;refine aF.au fun F2 bR=>?_)|(show F2 _ _ _;subst bR)|(show F _ _ _;subst hF;refine aF.au fun F hF=>?_)|(show F _ _ _;subst hF)|refine ae U rfl ?_)
         all_goals (try conv=>whnf)
         all_goals first
          | (have hx:kI x.boxes[k]=true:=by assumption
             rw[hx] at uq
             exact ⟨(k+1,false),[0,1,2,3],⟨⟨hq,uq⟩,Nat.sub_lt_sub_left hq (Nat.lt_succ_self _)⟩,rfl,⟨rr,rr,rr,rr,rr,rr,rr,⟨rfl,aw rfl (aj (by first|omega|(simp only[];omega)) (by first|omega|(simp only[];omega)))⟩,tU⟩,⟨ko,ko,⟨_,rfl,rfl⟩,⟨_,rfl,rfl⟩,tU⟩⟩)
          | (have hx:kI x.boxes[k]=false:=by assumption
             rw[hx] at uq
             exact ⟨(k+1,true),[0,1,2,3],⟨⟨hq,uq⟩,Nat.sub_lt_sub_left hq (Nat.lt_succ_self _)⟩,rfl,⟨rr,rr,rr,rr,rr,rr,rr,⟨rfl,aw rfl (aj (by first|omega|(simp only[];omega)) (by first|omega|(simp only[];omega)))⟩,tU⟩,⟨ko,ko,⟨_,rfl,rfl⟩,⟨_,rfl,rfl⟩,tU⟩⟩)
          | exact ⟨(k+1,true),[0,1,2,3],⟨⟨hq,uq⟩,Nat.sub_lt_sub_left hq (Nat.lt_succ_self _)⟩,rfl,⟨rr,rr,rr,rr,rr,rr,rr,⟨rfl,aw rfl (aj (by first|omega|(simp only[];omega)) (by first|omega|(simp only[];omega)))⟩,tU⟩,⟨ko,ko,⟨_,rfl,rfl⟩,⟨_,rfl,rfl⟩,tU⟩⟩
        ·obtain rfl:k=x.boxes.length:=by omega
         rw[List.drop_length,List.all_nil] at uq
         cases bad
         ·have hB:yh x=false:=uq.symm
          rw[hB] at hr
          repeat' ((conv=>whnf);first|with_reducible apply aa<;>intro _|refine aJ.drawn U rfl rfl ?_|with_reducible refine And.intro (aG.mk ⟨_,rfl,rfl⟩) ?_|exact cI hq (by assumption)|(show F2 _ _ _;subst bR;refine aF.au fun F2 bR=>?_)|(show F2 _ _ _;subst bR)|(show F _ _ _;subst hF;refine aF.au fun F hF=>?_)|(show F _ _ _;subst hF)|refine ae U rfl ?_)
          all_goals (try conv=>whnf)
          all_goals exact ⟨⟨i+1,b,rs,v⟩,[0,1,2],⟨⟨ah,hr,hv,kU,hb⟩,Nat.sub_lt_sub_left ah (Nat.lt_succ_self _)⟩,rfl,⟨rr,rr,rr,rr,⟨rfl,aw rfl (aj (by first|omega|(simp only[];omega)) (by first|omega|(simp only[];omega)))⟩,tU⟩,⟨ko,ko,⟨_,rfl,rfl⟩,tU⟩⟩
         ·have hB:yh x=true:=uq.symm
          rw[hB] at hr
          repeat' ((conv=>whnf);first|with_reducible apply aa<;>intro _|refine aJ.drawn U rfl rfl ?_|with_reducible refine And.intro (aG.mk ⟨_,rfl,rfl⟩) ?_|exact cI hq (by assumption)|(show F2 _ _ _;subst bR;refine aF.au fun F2 bR=>?_)|(show F2 _ _ _;subst bR)|(show F _ _ _;subst hF;refine aF.au fun F hF=>?_)|(show F _ _ _;subst hF)|refine ae U rfl ?_)
          all_goals (try conv=>whnf)
          all_goals exact ⟨_,33,x.line,x.aS,rfl,.inr ⟨_,rfl⟩,⟨fun h=>absurd h (by decide),fun h=>by rw[<-hr] at h;cases h⟩,_,rfl⟩
   ·obtain rfl:i=ds.length:=by omega
    rw[List.drop_length,ld] at hr;obtain ⟨A0,c0,rfl⟩:=sO hv;repeat' ((conv=>whnf);first|with_reducible apply aa<;>intro _|refine aJ.drawn U rfl rfl ?_|with_reducible refine And.intro (aG.mk ⟨_,rfl,rfl⟩) ?_|exact cI ah (by assumption)|(show F _ _ _;subst hF;refine aF.au fun F hF=>?_)|(show F _ _ _;subst hF)|refine ae U rfl ?_)
    all_goals (try conv=>whnf)
    all_goals exact ⟨_,0,0,0,rfl,.inl ⟨_,_,_,rfl⟩,⟨fun _=>hr.symm,fun _=>rfl⟩,_,rfl⟩
theorem iV{c:Ck}{e l k:Nat}(he:e≠0):(c.aV e l k).fault.err≠0:=by
 unfold Ck.aV;split
 ·exact he
 ·assumption
theorem Ba{c:Ck}{e l k:Nat}{p:Prop}[Decidable p](h:c.fault.err≠0):(if p then c.aV e l k else c).fault.err≠0:=by
 split
 ·unfold Ck.aV;rw[if_neg h];exact h
 ·exact h
def Nm(d:Dc)(s t:Nat)(l:List Bx)(c:Ck):Ck:=
 let c:Ck:={ c with boxes:=c.boxes+l.length }
 let c:Ck:=if 32<c.boxes then c.aV 2 d.line d.aS else c
 let c:Ck:=if 16<d.bO then c.aV 33 d.line d.aS else c
 { c with rules:=c.rules++[⟨d.kind,s,d.lo,d.hi,t,l,d.bO⟩] }
def Nl(d:Dc)(s:Nat)(c:Ck):Ck:=Nm d s (cP 2 d.label c).1 (cH d.wh (cP 2 d.label c).2).1 (cH d.wh (cP 2 d.label c).2).2
def Kw(d:Dc)(s:Nat×Ck):Ck:=
 if d.kind=6 then { s.2 with rules:=s.2.rules++[⟨6,s.1,0,0,0,[],0⟩] }
 else Nl d s.1 (if d.hi<d.lo\/7<d.hi then s.2.aV 33 d.line d.aS else s.2)
theorem IX(d:Dc)(c:Ck):gK d c=Kw d (cP 1 d.role (if c.rules.length=32 then c.aV 2 d.line d.aS else c)):=rfl
theorem Iq{k:Nat}{w:fQ}{c:Ck}(h:c.fault.err≠0):(cP k w c).2.fault.err≠0:=by
 unfold cP;by_cases ha:w.any=true
 ·rw[if_pos ha];exact h
 ·rw[if_neg ha];simp only[];have hc:=Ba (e:=21) (l:=w.line) (k:=w.aS) (p:=w.name≠[]/\assoc (c.names k) w.name=none) h;generalize (if w.name≠[]/\assoc (c.names k) w.name=none then c.aV 21 w.line w.aS else c)=c' at *;generalize (if w.name≠[] then (assoc (c.names k) w.name).getD 0 else w.n)=n;by_cases h7:7<n
  ·rw[if_pos h7];exact iV (e:=33) (by decide)
  ·rw[if_neg h7];exact hc
theorem Ca{w:fQ}{c:Ck}(h:c.fault.err≠0):(cH w c).2.fault.err≠0:=by
 unfold cH;split
 ·exact h
 ·split
  ·exact h
  ·exact iV (e:=21) (by decide)
theorem E8{d:Dc}{s t:Nat}{l:List Bx}{c:Ck}(h:c.fault.err≠0):(Nm d s t l c).fault.err≠0:=Ba (Ba h)
theorem KX{d:Dc}{s:Nat}{c:Ck}(h:c.fault.err≠0):(Nl d s c).fault.err≠0:=E8 (Ca (Iq h))
theorem KW{d:Dc}{s:Nat×Ck}(h:s.2.fault.err≠0):(Kw d s).fault.err≠0:=by
 unfold Kw;split
 ·exact h
 ·exact KX (Ba h)
structure CI(pre:List Dv)(c:Ck)(r b:Nat):Prop where
 ok:c.fault.err=0
 n1:∀s,assoc c.jT s=(fB pre 1 s).map fun y=>y.x.n
 n2:∀s,assoc c.labels s=(fB pre 2 s).map fun y=>y.x.n
 n3:∀s,assoc c.regions s=(fB pre 3 s).map fun y=>y.x.boxes
 rl:c.rules.length=r
 bl:c.boxes=b
 le:r<=32
 ro:c.rules.all Rl.ok=true
 rb:∀y∈pre,y.x.kind=3->y.x.boxes.all kI=true
theorem K4{pre:List Dv}{k:Nat}{w:fQ}{c:Ck}(h:c.fault.err=0)(hn:assoc (c.names k) w.name=(fB pre k w.name).map fun y=>y.x.n) :
  ((re pre k w).2=0/\(cP k w c).2=c)\/((re pre k w).2≠0/\(cP k w c).2.fault.err≠0):=by
 unfold re cP;by_cases ha:w.any=true
 ·rw[if_pos ha,if_pos ha];exact .inl ⟨rfl,rfl⟩
 ·rw[if_neg ha,if_neg ha];simp only[];by_cases h0:w.name=[]
  ·rw[if_pos h0];simp only[h0,ne_eq,not_true_eq_false,false_and,if_false];by_cases h7:7<w.n
   ·rw[if_pos h7,if_pos h7];exact .inr ⟨by decide,iV (by decide)⟩
   ·rw[if_neg h7,if_neg h7];exact .inl ⟨rfl,rfl⟩
  ·rw[if_neg h0];simp only[h0,ne_eq,not_false_eq_true,true_and,if_true];rw[hn];cases hd:fB pre k w.name with
   | none=>
     simp only[Option.map_none,Option.getD_none,if_true];exact .inr ⟨by decide,iV (by decide)⟩
   | some y=>
     simp only[Option.map_some,Option.getD_some,reduceCtorEq,if_false];by_cases h7:7<y.x.n
     ·rw[if_pos h7,if_pos h7];exact .inr ⟨by decide,iV (by decide)⟩
     ·rw[if_neg h7,if_neg h7];exact .inl ⟨rfl,rfl⟩
theorem K3{k:Nat}{w:fQ}{c:Ck}:(cP k w c).1<=255:=by
 unfold cP;by_cases ha:w.any=true
 ·rw[if_pos ha];exact Nat.le_refl _
 ·rw[if_neg ha];simp only[];generalize (if w.name≠[] then (assoc (c.names k) w.name).getD 0 else w.n)=n;by_cases h7:7<n
  ·rw[if_pos h7];exact Nat.zero_le _
  ·rw[if_neg h7];exact Nat.le_trans (Nat.pow_le_pow_right (by decide) (show n<=7 by omega)) (by decide)
theorem MW{pre:List Dv}{w:fQ}{c:Ck}(hb:∀y∈pre,y.x.kind=3->y.x.boxes.all kI=true)(hn:assoc c.regions w.name=(fB pre 3 w.name).map fun y=>y.x.boxes) :
  (∃l,tG pre w=some l.length/\cH w c=(l,c)/\l.all kI=true)\/(tG pre w=none/\(cH w c).2.fault.err≠0):=by
 unfold tG cH;by_cases ha:w.any=true
 ·rw[if_pos ha,if_pos ha];exact .inl ⟨_,rfl,rfl,rfl⟩
 ·rw[if_neg ha,if_neg ha,hn];cases hd:fB pre 3 w.name with
  | none=>exact .inr ⟨rfl,iV (by decide)⟩
  | some y=>
    have hy:=List.find?_some hd;simp only[Bool.and_eq_true,decide_eq_true_eq] at hy;exact .inl ⟨_,rfl,rfl,hb y (List.mem_of_find?_eq_some hd) hy.1⟩
theorem PF{pre:List Dv}{c:Ck}{r b:Nat}{d:Dc}(h:CI pre c r b)(hk:4<=d.kind/\d.kind<=6) :
  (∃n ru,jk pre d r b=some n/\gK d c={ c with rules:=c.rules++[ru],boxes:=b+n }/\ru.ok=true)\/(jk pre d r b=none/\(gK d c).fault.err≠0):=by
 rw[IX];unfold jk;by_cases kU:32<=r
 ·rw[if_pos kU,if_pos (show c.rules.length=32 by have:=h.le;have:=h.rl;omega)];exact .inr ⟨rfl,KW (Iq (iV (by decide)))⟩
 rw[if_neg kU,if_neg (show ¬c.rules.length=32 by have:=h.rl;omega)];rcases K4 (w:=d.role) h.ok (k:=1) (h.n1 _) with ⟨h1,h2⟩|⟨h1,h2⟩
 ·rw[if_neg (fun x=>x h1)];unfold Kw;rw[h2];by_cases h6:d.kind=6
  ·rw[if_pos h6,if_pos h6];exact .inl ⟨0,_,rfl,by rw[Nat.add_zero,<-h.bl],by unfold Rl.ok;rw[if_pos rfl];simp[K3]⟩
  rw[if_neg h6,if_neg h6];by_cases h3:d.hi<d.lo\/7<d.hi
  ·rw[if_pos h3,if_pos h3];exact .inr ⟨rfl,KX (iV (by decide))⟩
  rw[if_neg h3,if_neg h3];unfold Nl;rcases K4 (w:=d.label) h.ok (k:=2) (h.n2 _) with ⟨h4,h5⟩|⟨h4,h5⟩
  ·rw[if_neg (fun x=>x h4),h5];rcases MW (w:=d.wh) h.rb (h.n3 _) with ⟨l,h7,h8,Y9⟩|⟨h7,h8⟩
   ·rw[h7,h8];simp only[];unfold Nm;simp only[h.bl];by_cases h9:32<b+l.length
    ·rw[if_pos h9,if_pos h9];exact .inr ⟨rfl,Ba (iV (by decide))⟩
    rw[if_neg h9,if_neg h9];by_cases vX:16<d.bO
    ·rw[if_pos vX,if_pos vX];exact .inr ⟨rfl,iV (by decide)⟩
    rw[if_neg vX,if_neg vX];exact .inl ⟨_,_,rfl,rfl,by unfold Rl.ok;rw[if_neg h6,if_pos (show d.kind=4\/d.kind=5 by omega)];simp[K3,Y9];omega⟩
   ·rw[h7];exact .inr ⟨rfl,E8 h8⟩
  ·rw[if_pos h4];exact .inr ⟨rfl,E8 (Ca h5)⟩
 ·rw[if_pos h1];exact .inr ⟨rfl,KW h2⟩
theorem ez(pre:List Dv)(y:Dv)(k:Nat)(s:List UInt8):fB (pre++[y]) k s=(fB pre k s).or (if y.x.kind=k/\y.x.name=s then some y else none):=by
 unfold fB;rw[List.find?_append];congr 1;rw[List.find?_cons,List.find?_nil];by_cases h1:y.x.kind=k
 ·by_cases h2:y.x.name=s
  ·rw[decide_eq_true h1,decide_eq_true h2,if_pos ⟨h1,h2⟩];rfl
  ·rw[decide_eq_false h2,Bool.and_false,if_neg fun h=>h2 h.2]
 ·rw[decide_eq_false h1,Bool.false_and,if_neg fun h=>h1 h.1]
theorem rF{β:Type}(l:List (List UInt8×β))(n s:List UInt8)(v:β):assoc (l++[(n,v)]) s=(assoc l s).or (if n=s then some v else none):=by
 unfold assoc;rw[List.find?_append,Option.map_or];congr 1;rw[List.find?_cons,List.find?_nil];by_cases h:n=s
 ·rw[decide_eq_true h,if_pos h];rfl
 ·rw[decide_eq_false h,if_neg h];rfl
theorem Ix{pre:List Dv}{c:Ck}{r b:Nat}{y:Dv}(h:CI pre c r b)(hb:b<=32)(hm:fx y.x=true) :
  (∃x,BS pre y.x r b=some x/\CI (pre++[y]) (dJ y.x c) x.1 x.2/\x.2<=32)\/(BS pre y.x r b=none/\(dJ y.x c).fault.err≠0):=by
 have hk:1<=y.x.kind/\y.x.kind<=6:=by
  unfold fx at hm;repeat' split at hm
  all_goals first|omega|cases hm
 unfold BS dJ;by_cases h3:3<y.x.kind
 ·rw[if_pos h3,if_neg (show ¬(y.x.kind=1\/y.x.kind=2) by omega),if_neg (show ¬y.x.kind=3 by omega)];rcases PF (d:=y.x) h ⟨h3,hk.2⟩ with ⟨n,ru,h1,h2,uX⟩|⟨h1,h2⟩
  ·have hle:=DK h1 hb;rw[h1,h2];refine .inl ⟨_,rfl,⟨h.ok,fun s=>?_,fun s=>?_,fun s=>?_,?_,rfl,hle.1,?_,fun z hz Ju=>?_⟩,hle.2⟩
   ·rw[ez,if_neg (by omega),Option.or_none];exact h.n1 s
   ·rw[ez,if_neg (by omega),Option.or_none];exact h.n2 s
   ·rw[ez,if_neg (by omega),Option.or_none];exact h.n3 s
   ·show (c.rules++[ru]).length=r+1
    rw[List.length_append,h.rl];rfl
   ·show (c.rules++[ru]).all Rl.ok=true
    rw[List.all_append,h.ro,List.all_cons,uX];rfl
   ·rcases List.mem_append.1 hz with hz|hz
    ·exact h.rb z hz Ju
    ·rw[List.mem_singleton] at hz;subst hz;omega
  ·rw[h1];exact .inr ⟨rfl,h2⟩
 ·rw[if_neg h3];by_cases hr:y.x.kind=3
  ·rw[if_neg (show ¬(y.x.kind=1\/y.x.kind=2) by omega),if_pos hr];unfold gq yh;rw[h.n3,hr,Option.isSome_map,decide_eq_false (by omega:¬(3:Nat)<3),Bool.false_and,Bool.false_or];cases hd:fB pre 3 y.x.name with
   | some z=>exact .inr ⟨rfl,iV (by decide)⟩
   | none=>
     simp only[Option.isSome_none,Bool.false_or,Bool.false_eq_true,if_false];by_cases hx:(!y.x.boxes.all kI)=true
     ·rw[if_pos hx,if_pos hx];exact .inr ⟨rfl,iV (by decide)⟩
     ·rw[if_neg hx,if_neg hx];refine .inl ⟨_,rfl,⟨h.ok,fun s=>?_,fun s=>?_,fun s=>?_,h.rl,h.bl,h.le,h.ro,fun z hz Ju=>?_⟩,hb⟩
      ·rw[ez,if_neg (by omega),Option.or_none];exact h.n1 s
      ·rw[ez,if_neg (by omega),Option.or_none];exact h.n2 s
      ·rw[rF,ez,h.n3,Option.map_or];congr 1;by_cases hs:y.x.name=s
       ·rw[if_pos hs,if_pos ⟨hr,hs⟩];rfl
       ·rw[if_neg hs,if_neg fun h=>hs h.2];rfl
      ·rcases List.mem_append.1 hz with hz|hz
       ·exact h.rb z hz Ju
       ·rw[List.mem_singleton] at hz;subst hz;simpa using hx
  ·rw[if_pos (show y.x.kind=1\/y.x.kind=2 by omega)];have QF:y.x.boxes=[]:=by
    unfold fx at hm;rw[if_pos (show y.x.kind=1\/y.x.kind=2 by omega)] at hm;simp only[Bool.and_eq_true,decide_eq_true_eq] at hm;exact hm.1.1.2
   unfold eI yh;rw[QF,decide_eq_true (by omega:y.x.kind<3),Bool.true_and,List.all_nil,Bool.not_true,Bool.or_false];have LU:assoc (c.names y.x.kind) y.x.name=(fB pre y.x.kind y.x.name).map fun y=>y.x.n:=by
    unfold Ck.names;by_cases h1:y.x.kind=1
    ·rw[if_pos h1,h1];exact h.n1 _
    ·rw[if_neg h1,(by omega:y.x.kind=2)];exact h.n2 _
   rw[LU,Option.isSome_map];cases hd:fB pre y.x.kind y.x.name with
   | some z=>exact .inr ⟨rfl,iV (by decide)⟩
   | none=>
     simp only[Option.isSome_none,Bool.false_or,Bool.false_eq_true,if_false];by_cases h7:7<y.x.n
     ·rw[if_pos h7,decide_eq_true h7];exact .inr ⟨rfl,iV (by decide)⟩
     ·rw[if_neg h7,decide_eq_false h7];by_cases h1:y.x.kind=1
      ·rw[if_pos h1];refine .inl ⟨_,rfl,⟨h.ok,fun s=>?_,fun s=>?_,fun s=>?_,h.rl,h.bl,h.le,h.ro,fun z hz Ju=>?_⟩,hb⟩
       ·rw[rF,ez,h.n1,Option.map_or];congr 1;by_cases hs:y.x.name=s
        ·rw[if_pos hs,if_pos ⟨h1,hs⟩];rfl
        ·rw[if_neg hs,if_neg fun h=>hs h.2];rfl
       ·rw[ez,if_neg (by omega),Option.or_none];exact h.n2 s
       ·rw[ez,if_neg (by omega),Option.or_none];exact h.n3 s
       ·rcases List.mem_append.1 hz with hz|hz
        ·exact h.rb z hz Ju
        ·rw[List.mem_singleton] at hz;subst hz;omega
      ·have h2:y.x.kind=2:=by omega
       rw[if_neg h1];refine .inl ⟨_,rfl,⟨h.ok,fun s=>?_,fun s=>?_,fun s=>?_,h.rl,h.bl,h.le,h.ro,fun z hz Ju=>?_⟩,hb⟩
       ·rw[ez,if_neg (by omega),Option.or_none];exact h.n1 s
       ·rw[rF,ez,h.n2,Option.map_or];congr 1;by_cases hs:y.x.name=s
        ·rw[if_pos hs,if_pos ⟨h2,hs⟩];rfl
        ·rw[if_neg hs,if_neg fun h=>hs h.2];rfl
       ·rw[ez,if_neg (by omega),Option.or_none];exact h.n3 s
       ·rcases List.mem_append.1 hz with hz|hz
        ·exact h.rb z hz Ju
        ·rw[List.mem_singleton] at hz;subst hz;omega
theorem yi:∀{l pre:List Dv} {c:Ck} {r b:Nat},CI pre c r b->b<=32->(∀y∈l,fx y.x=true)->((jO (l.map Dv.x) c).fault.err=0↔ld pre l r b=true)
 | [],_,_,_,_,h,_,_=>⟨fun _=>rfl,fun _=>h.ok⟩
 | y::l,pre,c,r,b,h,hb,hm=>by
   rw[List.map_cons,jO,ld];rcases Ix (y:=y) h hb (hm y List.mem_cons_self) with ⟨x,h1,h2,h3⟩|⟨h1,h2⟩
   ·rw[h1,if_pos h2.ok];exact yi h2 h3 fun z hz=>hm z (List.mem_cons_of_mem _ hz)
   ·rw[h1,if_neg h2];exact ⟨fun h=>absurd h h2,fun h=>by cases h⟩
theorem F7:CI [] Ck.zero 0 0:=⟨rfl,fun _=>rfl,fun _=>rfl,fun _=>rfl,rfl,rfl,by decide,rfl,fun _ h=>by cases h⟩
theorem CV:∀{l pre:List Dv} {c:Ck} {r b:Nat},CI pre c r b->b<=32->(∀y∈l,fx y.x=true)->(jO (l.map Dv.x) c).fault.err=0->(jO (l.map Dv.x) c).rules.all Rl.ok=true
 | [],_,_,_,_,h,_,_=>fun _=>h.ro
 | y::l,pre,c,r,b,h,hb,hm=>by
   rw[List.map_cons,jO];rcases Ix (y:=y) h hb (hm y List.mem_cons_self) with ⟨x,_,h2,h3⟩|⟨_,h2⟩
   ·rw[if_pos h2.ok];exact CV h2 h3 fun z hz=>hm z (List.mem_cons_of_mem _ hz)
   ·rw[if_neg h2];exact fun h=>absurd h h2
theorem Mt{s:List UInt8}(h:(gE s).2.err=0):(gE s).1.all Rl.ok=true:=by
 unfold gE at h ⊢;by_cases hp:(parse s).2.err=0
 ·rw[if_pos hp] at h ⊢;have hm:=Bn hp;obtain ⟨ds,hd⟩:∃ds:List Dv,ds.map Dv.x=(parse s).1:=⟨(parse s).1.map fun x=>⟨x,none,0⟩,by rw[List.map_map];exact List.map_id _⟩;rw[<-hd] at h hm ⊢;have hm:∀y∈ds,fx y.x=true:=fun y hy=>hm _ (List.mem_map_of_mem hy);have h0:(ds.map Dv.x).all fx=true:=by
   rw[List.all_map,List.all_eq_true];exact hm
  unfold check at h ⊢;rw[h0] at h ⊢;simp only[Bool.not_true,Bool.false_eq_true,if_false] at h ⊢;split
  ·rename_i hz;exact CV F7 (by decide) hm hz
  ·rfl
 ·rw[if_neg hp] at h;exact absurd h hp
theorem Ch{ds:List Dv}(hm:∀y∈ds,fx y.x=true):ld [] ds 0 0=true↔(check (ds.map Dv.x)).2.err=0:=by
 have h0:(ds.map Dv.x).all fx=true:=by
  rw[List.all_map,List.all_eq_true];exact hm
 unfold check;rw[h0];simp only[Bool.not_true,Bool.false_eq_true,if_false];rw[<-yi (l:=ds) (pre:=[]) (c:=Ck.zero) (r:=0) (b:=0) F7 (by decide) hm];split
 ·rename_i h;exact ⟨fun _=>rfl,fun _=>h⟩
 ·rename_i h;exact Iff.rfl
theorem Mr{R:aH}{A:Option Addr}{m c:Nat}{ds:List Dv}(h:pY R A m ds)(hc:ds.length<=c)(hm:∀y∈ds,fx y.x=true):CP [] 35 [.lit (.slice A ds.length c)] [.res R] (fun v H'=>∃(A:Option Addr) (n q e l c:Nat),v=.tuple [.lit (.slice A n q),.agg [iA e,iA l,iA c]]/\(e=0↔(check (ds.map Dv.x)).2.err=0)/\∃G,H'=.res R::G):=by
 refine ag.OA (ag.pre (fP.more (R:=aB eD 7 fN aO []) rfl (bc.jn l7 _)) (Pe h hc hm)) ?_;rintro _ H' ⟨rv,e,l,cc,rfl,hv,he,hG⟩;rw[Ch hm] at he;rcases hv with ⟨A,n,q,rfl⟩|⟨o,rfl⟩
 ·exact .inl ⟨A,n,q,e,l,cc,rfl,he,hG⟩
 ·exact .inr ⟨o,_,rfl,fun a=>⟨some a,0,0,e,l,cc,rfl,he,hG⟩⟩
theorem DH{n m:Int}{S:List Nat}{H:List af}{K:AV->List af->Prop}(k:K (bA (decide (0<=n/\n<=m))) H):CP S 30 [iA n,iA m] H K:=by
 refine ag.pure ?_ (fun _=>rfl) (fun _=>rfl) k;clear k;refine ae U rfl ?_;repeat' ((conv=>whnf);first|with_reducible apply aa<;>intro _|refine ae U rfl ?_)
 all_goals
  refine bh ?_
  simp_all
 all_goals omega
theorem BJ{S:List Nat}{H:List af}{K:AV->List af->Prop}{m:Mem}(k:K (bA m.right) H):CP S 90 [.agg (mA m)] H K:=by
 refine ag.pure ?_ (fun _=>rfl) (fun _=>rfl) k;clear k;refine ae U rfl ?_;repeat' ((conv=>whnf);first|with_reducible apply aa<;>intro _|refine ae U rfl ?_)
 all_goals
  refine bh ?_
  simp_all [Mem.right]
 all_goals omega
theorem HZ{n a:Int}{S:List Nat}{H:List af}{K:AV->List af->Prop}(k:K (bA (decide (1<=n/\n<=65535))) H):CP S 91 [.agg [iA n,uA a]] H K:=by
 refine ag.pure ?_ (fun _=>rfl) (fun _=>rfl) k;clear k;refine ae U rfl ?_;repeat' ((conv=>whnf);first|with_reducible apply aa<;>intro _|refine ae U rfl ?_)
 all_goals
  refine bh ?_
  simp_all
 all_goals omega
theorem sJ{x0 y0 x1 y1:Int}{S:List Nat}{H:List af}{K:AV->List af->Prop}(k:K (bA (oo x0 y0 x1 y1)) H):CP S 33 [.agg [iA x0,iA y0,iA x1,iA y1]] H K:=by
 refine ag.pure ?_ (fun _=>rfl) (fun _=>rfl) k;clear k;refine ae U rfl ?_;repeat' ((conv=>whnf);first|with_reducible apply aa<;>intro _|refine ae U rfl ?_)
 all_goals
  refine bh ?_
  simp_all [oo]
 all_goals omega
theorem RS{S:List Nat}{H:List af}{K:AV->List af->Prop}{g:yZ}(k:K (bA g.right) H):CP S 93 [.agg [iA g.ops,iA g.bO,iA g.x0,iA g.y0,iA g.x1,iA g.y1,bA g.void,iA g.mY]] H K:=by
 refine ag.pure ?_ (fun _=>rfl) (fun _=>rfl) k;clear k;refine ae U rfl ?_;repeat' ((conv=>whnf);first|with_reducible apply aa<;>intro _|refine sJ ?_|refine ae U rfl ?_)
 all_goals
  refine bh ?_
  simp_all [yZ.right]
 all_goals omega
theorem DC{R:aH}{oa:Option Addr}{c:Nat}{ms:List Mem}{u:Int}(h:eG Tryz.prog R 51 6 oa mC ms)(hn:ms.length<=1000000):CP [] 32 [.lit (.slice oa ms.length c),iA u] [.res R] (fun v H'=>∃z:Mem,v=.tuple [.agg (mA z),bA ((ms.map Mem.user).any fun y=>y==u)]/\∃G,H'=.res R::G):=by
 obtain ⟨o,ho⟩:∃o,o=(ms.map Mem.user).any fun y=>y==u:=⟨_,rfl⟩;rw[<-ho];refine ae U rfl ?_;conv=>whnf
 refine aW U rfl (fun i:Nat=>[(0,.lit (.slice oa ms.length c)),(1,iA u),(4,.ptr 1 0),(6,iA (i:Nat))]) (fun _=>[.res R,.cells [iA 0,iA 0,iA 0,iA 0,iA 0,uA 0] 51]) (fun i=>i<=ms.length/\o=((ms.drop i).map Mem.user).any fun y=>y==u) (fun i=>ms.length - i) 0 ⟨Nat.zero_le _,ho⟩ [0,1] ⟨rfl,⟨rr,rr,rr,rr,tU⟩,⟨ko,⟨_,rfl,rfl⟩,tU⟩⟩ ?_;rintro i ⟨hi,he⟩;clear ho;by_cases ah:i<ms.length
 ·obtain ⟨a,rfl,bq⟩:=h.at ah;rw[List.drop_eq_getElem_cons ah,List.map_cons,List.any_cons] at he;have dK:kn Tryz.prog R 51 6 a mC ms:=bq;have k1:=kn.jx (j:=0) (u:=.int .i64 ms[i].user) (ty2:=3) U dK ⟨_,rfl,rfl⟩ ah ⟨_,rfl,rfl⟩ rfl;have k3:=fun w S hw=>bq w S hw i ah;obtain ⟨y,hy⟩:∃y,y=ms[i]:=⟨_,rfl⟩;rw[<-hy] at he k1;simp only[<-hy] at k3;repeat' ((conv=>whnf);first|with_reducible apply aa<;>intro _|(exfalso;exact ck ah (by assumption))|refine ai.bJ U rfl rfl rfl rfl rfl ah ?_|refine ai.jW U rfl rfl rfl rfl rfl rfl ?_|refine ai.aR (i:=0) (v:=iA y.user) rfl k1 rfl rfl ?_|refine ai.aR (i:=0) (v:=.agg (mA y)) rfl k3 rfl rfl ?_|refine ae U rfl ?_)
  all_goals (try conv=>whnf)
  ·rename_i hk;rw[hk,Bool.true_or] at he;subst he;exact ⟨y,rfl,_,rfl⟩
  ·rename_i hk;rw[hk,Bool.false_or] at he;exact ⟨i+1,[0,1],⟨⟨ah,he⟩,Nat.sub_lt_sub_left ah (Nat.lt_succ_self _)⟩,rfl,⟨rr,rr,rr,⟨rfl,aw rfl (aj (by omega) (by omega))⟩,tU⟩,⟨ko,⟨_,rfl,rfl⟩,tU⟩⟩
 ·obtain rfl:i=ms.length:=by omega
  rw[List.drop_length,List.map_nil,List.any_nil] at he;subst he;repeat' ((conv=>whnf);first|with_reducible apply aa<;>intro _|(exfalso;exact cI ah (by assumption))|refine ae U rfl ?_)
  all_goals (try conv=>whnf)
  all_goals exact ⟨⟨0,0,0,0,0,0⟩,rfl,_,rfl⟩
end Go.Proofs.YtmbdghclhpboaaaGreat
