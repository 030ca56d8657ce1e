/- Part of the proof: Rf12d Rf12e RulF Rf22. Conditions: as each states. -/
import Derived.Test.YtmbdghclhpboaaaGreatPq42
set_option linter.all false
set_option maxRecDepth 100000
set_option maxHeartbeats 8000000
namespace Go.Proofs.YtmbdghclhpboaaaGreat
open Ev Go.RowKit
theorem Ou{R:aC}{d:Dc}{A:Option Addr}{m:Nat}(h:sc R A d.boxes)(hl:d.boxes.length<=1000000)(hm:fV d=true):CP [] 98 [.agg (dA d (.slice A d.boxes.length m))] [.res R] (lf (bA true) [.res R]):=by
 unfold fV at hm;by_cases WS:d.kind=1\/d.kind=2
 ·rw[if_pos WS] at hm;simp only[Bool.and_eq_true,decide_eq_true_eq,oo] at hm;obtain ⟨⟨⟨⟨hn,l1⟩,hb⟩,z1⟩,⟨⟨e1,e2,e3⟩,z2⟩,z3⟩:=hm;rcases WS with hk|hk
  ·exact RK h hl hk hn l1 hb z1 z2 z3 e1 e2 e3
  ·exact RL h hl hk hn l1 hb z1 z2 z3 e1 e2 e3
 ·rw[if_neg WS] at hm;by_cases h3:d.kind=3
  ·rw[if_pos h3] at hm;simp only[Bool.and_eq_true,decide_eq_true_eq,oo,pv,List.all_eq_true] at hm;obtain ⟨⟨⟨⟨hn,e4⟩,iE,hb⟩,z1⟩,⟨⟨e1,e2,e3⟩,z2⟩,z3⟩:=hm;exact RM h hl h3 hn e4 (List.length_pos_iff.2 hb) iE z1 z2 z3 e1 e2 e3
  ·rw[if_neg h3] at hm;by_cases S9:d.kind=4\/d.kind=5
   ·rw[if_pos S9] at hm;simp only[Bool.and_eq_true,decide_eq_true_eq,oj,vT,Dk] at hm;obtain ⟨⟨e5,e4,hb⟩,⟨⟨z1,l1,l2,l3⟩,z2⟩,z3,hw⟩:=hm;cases ha:d.wh.any
    ·rw[ha,Bool.false_or,decide_eq_true_eq] at hw;rcases S9 with hk|hk
     ·exact Lp h hl hk e4 e5 hb z1 z2 z3 l1 l2 l3 ha hw
     ·exact Lq h hl hk e4 e5 hb z1 z2 z3 l1 l2 l3 ha hw
    ·rcases S9 with hk|hk
     ·exact Ju h hl hk e4 e5 hb z1 z2 z3 l1 l2 l3 ha
     ·exact Jv h hl hk e4 e5 hb z1 z2 z3 l1 l2 l3 ha
   ·rw[if_neg S9] at hm;by_cases h6:d.kind=6
    ·rw[if_pos h6] at hm;simp only[Bool.and_eq_true,decide_eq_true_eq,oj,oo] at hm;obtain ⟨⟨⟨e5,e4,hb⟩,z1⟩,⟨⟨e1,e2,e3⟩,z2⟩,z3⟩:=hm;exact RN h hl h6 e4 e5 hb z1 z2 z3 e1 e2 e3
    ·rw[if_neg h6] at hm;cases hm
theorem Gr{n:Nat}{S:List Nat}{H:List ai}{K:AV->List ai->Prop}(k:K (bA (decide (n<=65535))) H):CP S 94 [iA n] H K:=by
 refine aj.pure ?_ (fun _=>rfl) (fun _=>rfl) k;clear k;refine ag aa rfl ?_;repeat' ((conv=>whnf);first|with_reducible apply af<;>intro _  | refine ag aa rfl ?_)
 all_goals (try conv=>whnf)
 all_goals rename_i hx
 ·exact bc (by rw[decide_eq_true (Int.ofNat_le.1 (dT1 hx))])
 ·exact bc (by rw[decide_eq_false fun h=>dF1 hx (Int.ofNat_le.2 h)])
theorem Li{b:Bx}{S:List Nat}{H:List ai}{K:AV->List ai->Prop}(k:K (bA (ly b)) H):CP S 33 [.agg ((iy b).map .lit)] H K:=by
 refine aj.pure ?_ (fun _=>rfl) (fun _=>rfl) k;clear k;refine ag aa rfl ?_;repeat' ((conv=>whnf);first|with_reducible apply af<;>intro _|refine Gr (n:=b.x0) ?_|refine Gr (n:=b.x1) ?_|refine Gr (n:=b.y0) ?_|refine Gr (n:=b.y1) ?_|refine ag aa rfl ?_)
 all_goals (try conv=>whnf)
 all_goals refine fe ?_
 all_goals unfold ly
 all_goals simp_all
 all_goals omega
def zf(d:Dc):Bool:=(decide (d.kind<3)&&decide (7<d.n)) || !d.boxes.all ly
def C0(pre:List Dv)(d:Dc)(r b:Nat):Option (Nat×Nat):=
 if 3<d.kind then (jU pre d r b).map fun n=>(r+1,b+n)
 else if (fY pre d.kind d.name).isSome || zf d then none else some (r,b)
def lP:List Dv->List Dv->Nat->Nat->Bool
 | _,[],_,_=>true
 | pre,d::l,r,b=>match C0 pre d.x r b with
   | none=>false
   | some x=>lP (pre++[d]) l x.1 x.2
theorem EP{pre:List Dv}{d:Dc}{r b n:Nat}(h:jU pre d r b=some n)(hb:b<=32):r+1<=32/\b+n<=32:=by
 unfold jU at h;repeat' split at h
 all_goals first
  | (cases h;done)
  | (cases h;omega)
def RuY(R:aC)(o:Option Nat)(v:AV)(H':List ai):Prop:=∃(y:dc) (e l c:Nat),v=.tuple [.agg ((fg y).map .lit),.agg [iA e,iA l,iA c]]/\((o=none/\e≠0)\/(o=some y.x.boxes.length/\e=0))/\∃G,H'=.res R::G
theorem UO{R:aC}{A:Option Addr}{m c rules boxes i:Nat}{ds:List Dv}{d:Dv}(h:qM R A m ds)(hi:i<=ds.length)(hb:boxes<=1000000):CP [] 99 [.lit (.slice A i c),.agg (dA d.x d.v),iA rules,iA boxes] [.res R] (RuY R (jU (ds.take i) d.x rules boxes)):=by
 have k:=UN (c:=c) (rules:=rules) (d:=d) (h.take i) hb;rw[List.length_take,Nat.min_eq_left hi] at k;refine aj.post k ?_;rintro _ H' ⟨k,ro,lo,hi,la,zo,e,l,c,n,A',m',rfl,ho,G,rfl⟩;refine ⟨_,eg.same rfl (.refl _),⟨⟨k,ro,lo,hi,la,List.replicate n ⟨0,0,0,0⟩,zo⟩,A',m'⟩,e,l,c,?_,?_,_,rfl⟩
 ·simp only[fg,dc.v,List.length_replicate,List.map_cons,List.map_nil];first|done|rfl
 ·simp only[List.length_replicate];exact ho
theorem SU{R:aC}{A:Option Addr}{m c i:Nat}{ds:List Dv}{k:Nat}{s:List UInt8}(h:qM R A m ds)(hi:i<=ds.length):CP [] 100 [.lit (.slice A i c),iA k,.lit (dw s)] [.res R] (lf (Ps (fY (ds.take i) k s)) [.res R]):=by
 have k1:=vO (c:=c) (k:=k) (s:=s) (h.take i);rw[List.length_take,Nat.min_eq_left hi] at k1;exact k1
structure CkL where
 i:Nat
 b:Nat
 rs:List dc
 v:Value
def CkP(R:aC)(ok:Bool)(v:AV)(H':List ai):Prop:=∃(rv:AV) (e l c:Nat),v=.tuple [rv,.agg [iA e,iA l,iA c]]/\((∃A n q,rv=.lit (.slice A n q))\/∃o,rv=.slice o 0 0 (.k 0))/\(e=0↔ok=true)/\∃G,H'=.res R::G
theorem Rv{R:aC}{A:Option Addr}{m c:Nat}{ds:List Dv}(h:qM R A m ds)(hc:ds.length<=c)(hm:∀d∈ds,fV d.x=true):CP [] 35 [.lit (.slice A ds.length c)] [.res R,.res (aA fg 7 gu aD [])] (CkP R (lP [] ds 0 0)):=by
 obtain ⟨ok,eR⟩:∃ok,ok=lP [] ds 0 0:=⟨_,rfl⟩;rw[<-eR];have hn:=h.len.1;refine ag aa rfl ?_;refine eX.of rfl rfl ?_;refine aI.az fun F hF=>?_;repeat' ((conv=>whnf);first|with_reducible apply af<;>intro _|refine aM.drawn aa rfl rfl ?_|with_reducible refine And.intro (aN.mk ⟨_,rfl,rfl⟩) ?_|(show F _ _ _;subst hF;refine aI.az fun F hF=>?_)|(show F _ _ _;subst hF)|refine ag aa rfl ?_)
 refine aV aa rfl (fun i:Nat=>[(0,.lit (.slice A ds.length c)),(3,.ptr 2 0),(4,.lit aD),(5,iA (0:Nat)),(6,iA (i:Nat))]) (fun _=>[.res R,.res (aA fg 7 gu aD []),.cells [iA 0,iA 0,iA 0] 86]) (fun i=>i<=ds.length) (fun i=>ds.length - i) 0 (Nat.zero_le _) [0,1,2] ?_ ?_
 ·exact ⟨rfl,⟨rr,rr,rr,rr,rr,tU⟩,⟨ko,ko,⟨_,rfl,rfl⟩,tU⟩⟩
 ·intro i hi;by_cases an:i<ds.length
  ·obtain ⟨a,rfl,bu⟩:=h.rd.at an;have iS:ds[i]∈ds:=List.getElem_mem an;have kR:=Ou (m:=ds[i].cap) (h.bx _ iS) (h.len.2 _ iS) (hm _ iS);repeat' ((conv=>whnf);first|with_reducible apply af<;>intro _|refine aM.drawn aa rfl rfl ?_|with_reducible refine And.intro (aN.mk ⟨_,rfl,rfl⟩) ?_|exact bT an (by assumption)|refine al.bC aa rfl rfl rfl rfl rfl an ?_|refine al.aR (i:=0) (v:=.agg (dA ds[i].x ds[i].v)) rfl (fun w S hR=>bu w S hR i an) rfl rfl ?_|refine kR.g [0] rfl rfl ⟨ko,tU⟩ fun G=>?_|(show F _ _ _;subst hF;refine aI.az fun F hF=>?_)|(show F _ _ _;subst hF)|refine ag aa rfl ?_)
   all_goals (try conv=>whnf)
   exact ⟨i+1,[0,1,2],⟨an,Nat.sub_lt_sub_left an (Nat.lt_succ_self _)⟩,rfl,⟨rr,rr,rr,rr,⟨rfl,ax rfl (ak (by omega) (by omega))⟩,tU⟩,⟨ko,ko,⟨_,rfl,rfl⟩,tU⟩⟩
  ·clear hi;repeat' ((conv=>whnf);first|with_reducible apply af<;>intro _|refine aM.drawn aa rfl rfl ?_|with_reducible refine And.intro (aN.mk ⟨_,rfl,rfl⟩) ?_|exact cF an (by assumption)|(show F _ _ _;subst hF;refine aI.az fun F hF=>?_)|(show F _ _ _;subst hF)|refine ag aa rfl ?_)
   all_goals (try conv=>whnf)
   refine aV aa rfl (fun x:CkL=>[(0,.lit (.slice A ds.length c)),(3,.ptr 2 0),(4,.lit x.v),(5,iA (x.b:Nat)),(7,iA (x.i:Nat))]) (fun x=>[.res R,.res (aA fg 7 gu x.v x.rs),.cells [iA 0,iA 0,iA 0] 86])
    (fun x=>x.i<=ds.length/\lP (ds.take x.i) (ds.drop x.i) x.rs.length x.b=ok/\cS x.v x.rs/\x.rs.length<=32/\x.b<=32) (fun x=>ds.length - x.i) ⟨0,0,[],aD⟩ ⟨Nat.zero_le _,eR.symm,.inl ⟨rfl,rfl⟩,by simp,by simp⟩ [0,1,2] ?_ ?_
   ·exact ⟨rfl,⟨rr,rr,rr,rr,rr,tU⟩,⟨ko,ko,⟨_,rfl,rfl⟩,tU⟩⟩
   clear an;rintro ⟨i,b,rs,v⟩ ⟨hi,hr,hv,lI,hb⟩;simp only[] at hi hr hv lI hb;clear eR;by_cases an:i<ds.length
   ·obtain ⟨a,rfl,bu⟩:=h.rd.at an;have iS:ds[i]∈ds:=List.getElem_mem an;have iE:=h.bx _ iS;have BN:=h.len.2 _ iS;rw[List.drop_eq_getElem_cons an,lP,<-bq an] at hr;have kr:=UO (c:=c) (rules:=rs.length) (boxes:=b) (d:=ds[i]) h (Nat.le_of_lt an) (by omega);have kd:=SU (c:=c) (k:=ds[i].x.kind) (s:=ds[i].x.name) h (Nat.le_of_lt an);obtain ⟨y,hy⟩:∃y,y=ds[i]:=⟨_,rfl⟩;rw[<-hy] at hr kr kd iE BN;have cQ:=fun w S hR=>bu w S hR i an;simp only[<-hy] at cQ;clear bu iS hy;obtain ⟨o,ho⟩:∃o,o=fY (ds.take i) y.x.kind y.x.name:=⟨_,rfl⟩;obtain ⟨rn,Tx⟩:∃rn,rn=jU (ds.take i) y.x rs.length b:=⟨_,rfl⟩;have II:=fun n hx=>EP (pre:=ds.take i) (d:=y.x) (r:=rs.length) (n:=n) hx hb;rw[<-ho] at kd;rw[<-Tx] at kr;simp only[<-Tx] at II;unfold C0 at hr;rw[<-ho,<-Tx] at hr;clear ho Tx h hm;by_cases hk:3<y.x.kind
    ·rw[if_pos hk] at hr;rcases hv with ⟨rfl,rfl⟩|⟨A0,c0,rfl⟩
     ·refine aI.az fun F2 cf=>?_;repeat' ((conv=>whnf);first|with_reducible apply af<;>intro _|refine aM.drawn aa rfl rfl ?_|with_reducible refine And.intro (aN.mk ⟨_,rfl,rfl⟩) ?_|exact bT an (by assumption)|refine al.bC aa rfl rfl rfl rfl rfl an ?_|refine al.aR (i:=0) (v:=.agg (dA y.x y.v)) rfl cQ rfl rfl ?_|refine al.JL (j:=i) aa rfl rfl rfl rfl rfl rfl (by omega) ?_|(refine kr.use [0] rfl rfl ⟨ko,tU⟩ ?_;rintro _ _ ⟨z,e,l,cc,rfl,hy,G,rfl⟩;refine ⟨[],?_⟩)|(refine dx.om (eH.iw aa uf nG (by decide) uE (i:=1) (y:=z) (l:=([]:List dc)) (v:=aD) (R1:=aB) (R':=fun v'=>aA fg 7 gu v' (([]:List dc)++[z])) rfl rfl rfl rfl rfl rfl rfl du (fun v'=>ee) (by first|omega|(simp;done)) ?_);intro A2 m2)|(exfalso;rename_i hx;exact dF1 hx (Int.ofNat_lt.2 hk))|(show F2 _ _ _;subst cf;refine aI.az fun F2 cf=>?_)|(show F2 _ _ _;subst cf)|(show F _ _ _;subst hF;refine aI.az fun F hF=>?_)|(show F _ _ _;subst hF)|refine ag aa rfl ?_)
      all_goals (try conv=>whnf)
      ·rename_i hx;rcases hy with ⟨hy,he⟩|⟨_,rfl⟩
       ·rw[hy] at hr;exact ⟨_,e,l,cc,rfl,.inr ⟨_,rfl⟩,⟨fun h=>absurd h he,fun h=>by rw[<-hr] at h;cases h⟩,_,rfl⟩
       ·cases hx
      ·rename_i hx;rcases hy with ⟨_,he⟩|⟨hy,rfl⟩
       ·exact absurd (Int.ofNat.inj (by simpa using hx)) he
       ·have hz:=II _ hy;rw[hy] at hr;exact ⟨⟨i+1,b+z.x.boxes.length,([]:List dc)++[z],.slice (some A2) (([]:List dc).length+1) m2⟩,[0,1,2],⟨⟨an,by show lP _ _ (([]:List dc)++[z]).length _=ok;rw[List.length_append];exact hr,.inr ⟨A2,m2,by simp⟩,by rw[List.length_append];exact hz.1,hz.2⟩,Nat.sub_lt_sub_left an (Nat.lt_succ_self _)⟩,rfl,⟨rr,rr,rr,⟨rfl,ax rfl (ak (by first|omega|(simp only[];omega)) (by first|omega|(simp only[];omega)))⟩,⟨rfl,ax rfl (ak (by first|omega|(simp only[];omega)) (by first|omega|(simp only[];omega)))⟩,tU⟩,⟨ko,ko,⟨_,rfl,rfl⟩,tU⟩⟩
     ·refine aI.az fun F2 cf=>?_;repeat' ((conv=>whnf);first|with_reducible apply af<;>intro _|refine aM.drawn aa rfl rfl ?_|with_reducible refine And.intro (aN.mk ⟨_,rfl,rfl⟩) ?_|exact bT an (by assumption)|refine al.bC aa rfl rfl rfl rfl rfl an ?_|refine al.aR (i:=0) (v:=.agg (dA y.x y.v)) rfl cQ rfl rfl ?_|refine al.JL (j:=i) aa rfl rfl rfl rfl rfl rfl (by omega) ?_|(refine kr.use [0] rfl rfl ⟨ko,tU⟩ ?_;rintro _ _ ⟨z,e,l,cc,rfl,hy,G,rfl⟩;refine ⟨[],?_⟩)|(refine al.om (eH.iw aa uf nG (by decide) uE (i:=1) (y:=z) (l:=rs) (v:=.slice (some A0) rs.length c0) (R1:=aB) (R':=fun v'=>aA fg 7 gu v' (rs++[z])) rfl rfl rfl rfl rfl rfl rfl du (fun v'=>ee) (by first|omega|(simp;done)) ?_);intro A2 m2)|(exfalso;rename_i hx;exact dF1 hx (Int.ofNat_lt.2 hk))|(show F2 _ _ _;subst cf;refine aI.az fun F2 cf=>?_)|(show F2 _ _ _;subst cf)|(show F _ _ _;subst hF;refine aI.az fun F hF=>?_)|(show F _ _ _;subst hF)|refine ag aa rfl ?_)
      all_goals (try conv=>whnf)
      ·rename_i hx;rcases hy with ⟨hy,he⟩|⟨_,rfl⟩
       ·rw[hy] at hr;exact ⟨_,e,l,cc,rfl,.inr ⟨_,rfl⟩,⟨fun h=>absurd h he,fun h=>by rw[<-hr] at h;cases h⟩,_,rfl⟩
       ·cases hx
      ·rename_i hx;rcases hy with ⟨_,he⟩|⟨hy,rfl⟩
       ·exact absurd (Int.ofNat.inj (by simpa using hx)) he
       ·have hz:=II _ hy;rw[hy] at hr;exact ⟨⟨i+1,b+z.x.boxes.length,rs++[z],.slice (some A2) (rs.length+1) m2⟩,[0,1,2],⟨⟨an,by show lP _ _ (rs++[z]).length _=ok;rw[List.length_append];exact hr,.inr ⟨A2,m2,by simp⟩,by rw[List.length_append];exact hz.1,hz.2⟩,Nat.sub_lt_sub_left an (Nat.lt_succ_self _)⟩,rfl,⟨rr,rr,rr,⟨rfl,ax rfl (ak (by first|omega|(simp only[];omega)) (by first|omega|(simp only[];omega)))⟩,⟨rfl,ax rfl (ak (by first|omega|(simp only[];omega)) (by first|omega|(simp only[];omega)))⟩,tU⟩,⟨ko,ko,⟨_,rfl,rfl⟩,tU⟩⟩
    ·rw[if_neg hk] at hr;cases o with
     | some z=>
       refine aI.az fun F2 cf=>?_;repeat' ((conv=>whnf);first|with_reducible apply af<;>intro _|refine aM.drawn aa rfl rfl ?_|with_reducible refine And.intro (aN.mk ⟨_,rfl,rfl⟩) ?_|exact bT an (by assumption)|refine al.bC aa rfl rfl rfl rfl rfl an ?_|refine al.aR (i:=0) (v:=.agg (dA y.x y.v)) rfl cQ rfl rfl ?_|refine al.JL (j:=i) aa rfl rfl rfl rfl rfl rfl (by omega) ?_|refine kd.g [0] rfl rfl ⟨ko,tU⟩ fun G=>?_|(exfalso;rename_i hx;exact hk (Int.ofNat_lt.1 (dT1 hx)))|(show F2 _ _ _;subst cf;refine aI.az fun F2 cf=>?_)|(show F2 _ _ _;subst cf)|(show F _ _ _;subst hF;refine aI.az fun F hF=>?_)|(show F _ _ _;subst hF)|refine ag aa rfl ?_)
       all_goals (try conv=>whnf)
       all_goals exact ⟨_,20,y.x.line,y.x.aX,rfl,.inr ⟨_,rfl⟩,⟨fun h=>absurd h (by decide),fun h=>by rw[<-hr] at h;cases h⟩,_,rfl⟩
     | none=>
       simp only[Option.isSome_none,Bool.false_or] at hr;obtain ⟨x,yA,yc⟩:=y;simp only[Dv.v] at hr kd iE BN cQ hk;refine aI.az fun F2 cf=>?_;repeat' ((conv=>whnf);first|with_reducible apply af<;>intro _|refine aM.drawn aa rfl rfl ?_|with_reducible refine And.intro (aN.mk ⟨_,rfl,rfl⟩) ?_|exact bT an (by assumption)|refine al.bC aa rfl rfl rfl rfl rfl an ?_|refine al.aR (i:=0) (v:=.agg (dA x (.slice yA x.boxes.length yc))) rfl cQ rfl rfl ?_|refine al.JL (j:=i) aa rfl rfl rfl rfl rfl rfl (by omega) ?_|refine kd.g [0] rfl rfl ⟨ko,tU⟩ fun G=>?_|(exfalso;rename_i hx;exact hk (Int.ofNat_lt.1 (dT1 hx)))|(refine aV aa rfl (fun z:Nat×Bool=>[(0,.lit (.slice (some a) ds.length c)),(3,.ptr 2 0),(4,.lit v),(5,iA (b:Nat)),(7,iA (i:Nat)),(8,.ptr 3 0),(13,bA z.2),(14,iA (z.1:Nat))]) (fun _=>[.res R,.res (aA fg 7 gu v rs),.cells [iA 0,iA 0,iA 0] 86,.cells (dA x (.slice yA x.boxes.length yc)) jd]) (fun z=>z.1<=x.boxes.length/\(z.2 || !(x.boxes.drop z.1).all ly)=zf x) (fun z=>x.boxes.length - z.1) (0,true) ?_ [0,1,2,3] ⟨rfl,⟨rr,rr,rr,rr,rr,rr,rr,rr,tU⟩,⟨ko,ko,⟨_,rfl,rfl⟩,⟨_,rfl,rfl⟩,tU⟩⟩ ?_)|(refine aV aa rfl (fun z:Nat×Bool=>[(0,.lit (.slice (some a) ds.length c)),(3,.ptr 2 0),(4,.lit v),(5,iA (b:Nat)),(7,iA (i:Nat)),(8,.ptr 3 0),(13,bA z.2),(14,iA (z.1:Nat))]) (fun _=>[.res R,.res (aA fg 7 gu v rs),.cells [iA 0,iA 0,iA 0] 86,.cells (dA x (.slice yA x.boxes.length yc)) jd]) (fun z=>z.1<=x.boxes.length/\(z.2 || !(x.boxes.drop z.1).all ly)=zf x) (fun z=>x.boxes.length - z.1) (0,false) ?_ [0,1,2,3] ⟨rfl,⟨rr,rr,rr,rr,rr,rr,rr,rr,tU⟩,⟨ko,ko,⟨_,rfl,rfl⟩,⟨_,rfl,rfl⟩,tU⟩⟩ ?_)|(show F2 _ _ _;subst cf;refine aI.az fun F2 cf=>?_)|(show F2 _ _ _;subst cf)|(show F _ _ _;subst hF;refine aI.az fun F hF=>?_)|(show F _ _ _;subst hF)|refine ag aa rfl ?_)
       all_goals (try conv=>whnf)
       all_goals first
        | (refine ⟨Nat.zero_le _,?_⟩
           rw[List.drop_zero]
           clear hr kr kd cQ iE II
           unfold zf
           generalize x.boxes.all ly=q
           cases q<;>simp_all<;>omega)
        | skip
       all_goals
        rintro ⟨k,bad⟩ ⟨gl,uY⟩
        simp only[] at gl uY
        by_cases hq:k<x.boxes.length
        ·obtain ⟨a2,rfl,hbd⟩:=iE.rd.at hq
         rw[List.drop_eq_getElem_cons hq,List.all_cons] at uY
         cases bad
         all_goals repeat' ((conv=>whnf);first|with_reducible apply af<;>intro _|refine aM.drawn aa rfl rfl ?_|with_reducible refine And.intro (aN.mk ⟨_,rfl,rfl⟩) ?_|exact bT hq (by assumption)|refine al.bC aa rfl rfl rfl rfl rfl hq ?_|refine al.aR (i:=0) (v:=.agg ((iy x.boxes[k]).map .lit)) rfl (fun w S hR=>hbd w S hR k hq) rfl rfl ?_|refine Li ?_|(show F2 _ _ _;subst cf;refine aI.az fun F2 cf=>?_)|(show F2 _ _ _;subst cf)|(show F _ _ _;subst hF;refine aI.az fun F hF=>?_)|(show F _ _ _;subst hF)|refine ag aa rfl ?_)
         all_goals (try conv=>whnf)
         all_goals first
          | (have hx:ly x.boxes[k]=true:=by assumption
             rw[hx] at uY
             exact ⟨(k+1,false),[0,1,2,3],⟨⟨hq,uY⟩,Nat.sub_lt_sub_left hq (Nat.lt_succ_self _)⟩,rfl,⟨rr,rr,rr,rr,rr,rr,rr,⟨rfl,ax rfl (ak (by first|omega|(simp only[];omega)) (by first|omega|(simp only[];omega)))⟩,tU⟩,⟨ko,ko,⟨_,rfl,rfl⟩,⟨_,rfl,rfl⟩,tU⟩⟩)
          | (have hx:ly x.boxes[k]=false:=by assumption
             rw[hx] at uY
             exact ⟨(k+1,true),[0,1,2,3],⟨⟨hq,uY⟩,Nat.sub_lt_sub_left hq (Nat.lt_succ_self _)⟩,rfl,⟨rr,rr,rr,rr,rr,rr,rr,⟨rfl,ax rfl (ak (by first|omega|(simp only[];omega)) (by first|omega|(simp only[];omega)))⟩,tU⟩,⟨ko,ko,⟨_,rfl,rfl⟩,⟨_,rfl,rfl⟩,tU⟩⟩)
          | exact ⟨(k+1,true),[0,1,2,3],⟨⟨hq,uY⟩,Nat.sub_lt_sub_left hq (Nat.lt_succ_self _)⟩,rfl,⟨rr,rr,rr,rr,rr,rr,rr,⟨rfl,ax rfl (ak (by first|omega|(simp only[];omega)) (by first|omega|(simp only[];omega)))⟩,tU⟩,⟨ko,ko,⟨_,rfl,rfl⟩,⟨_,rfl,rfl⟩,tU⟩⟩
        ·obtain rfl:k=x.boxes.length:=by omega
         rw[List.drop_length,List.all_nil] at uY
         cases bad
         ·have hB:zf x=false:=uY.symm
          rw[hB] at hr
          repeat' ((conv=>whnf);first|with_reducible apply af<;>intro _|refine aM.drawn aa rfl rfl ?_|with_reducible refine And.intro (aN.mk ⟨_,rfl,rfl⟩) ?_|exact cF hq (by assumption)|(show F2 _ _ _;subst cf;refine aI.az fun F2 cf=>?_)|(show F2 _ _ _;subst cf)|(show F _ _ _;subst hF;refine aI.az fun F hF=>?_)|(show F _ _ _;subst hF)|refine ag aa rfl ?_)
          all_goals (try conv=>whnf)
          all_goals exact ⟨⟨i+1,b,rs,v⟩,[0,1,2],⟨⟨an,hr,hv,lI,hb⟩,Nat.sub_lt_sub_left an (Nat.lt_succ_self _)⟩,rfl,⟨rr,rr,rr,rr,⟨rfl,ax rfl (ak (by first|omega|(simp only[];omega)) (by first|omega|(simp only[];omega)))⟩,tU⟩,⟨ko,ko,⟨_,rfl,rfl⟩,tU⟩⟩
         ·have hB:zf x=true:=uY.symm
          rw[hB] at hr
          repeat' ((conv=>whnf);first|with_reducible apply af<;>intro _|refine aM.drawn aa rfl rfl ?_|with_reducible refine And.intro (aN.mk ⟨_,rfl,rfl⟩) ?_|exact cF hq (by assumption)|(show F2 _ _ _;subst cf;refine aI.az fun F2 cf=>?_)|(show F2 _ _ _;subst cf)|(show F _ _ _;subst hF;refine aI.az fun F hF=>?_)|(show F _ _ _;subst hF)|refine ag aa rfl ?_)
          all_goals (try conv=>whnf)
          all_goals exact ⟨_,33,x.line,x.aX,rfl,.inr ⟨_,rfl⟩,⟨fun h=>absurd h (by decide),fun h=>by rw[<-hr] at h;cases h⟩,_,rfl⟩
   ·obtain rfl:i=ds.length:=by omega
    rw[List.drop_length,lP] at hr;obtain ⟨A0,c0,rfl⟩:=tV hv;repeat' ((conv=>whnf);first|with_reducible apply af<;>intro _|refine aM.drawn aa rfl rfl ?_|with_reducible refine And.intro (aN.mk ⟨_,rfl,rfl⟩) ?_|exact cF an (by assumption)|(show F _ _ _;subst hF;refine aI.az fun F hF=>?_)|(show F _ _ _;subst hF)|refine ag aa rfl ?_)
    all_goals (try conv=>whnf)
    all_goals exact ⟨_,0,0,0,rfl,.inl ⟨_,_,_,rfl⟩,⟨fun _=>hr.symm,fun _=>rfl⟩,_,rfl⟩
theorem jB{c:Ck}{e l k:Nat}(he:e≠0):(c.ba e l k).fault.err≠0:=by
 unfold Ck.ba;split
 ·exact he
 ·assumption
theorem B9{c:Ck}{e l k:Nat}{p:Prop}[Decidable p](h:c.fault.err≠0):(if p then c.ba e l k else c).fault.err≠0:=by
 split
 ·unfold Ck.ba;rw[if_neg h];exact h
 ·exact h
def Ph(d:Dc)(s t:Nat)(l:List Bx)(c:Ck):Ck:=
 let c:Ck:={ c with boxes:=c.boxes+l.length }
 let c:Ck:=if 32<c.boxes then c.ba 2 d.line d.aX else c
 let c:Ck:=if 16<d.bV then c.ba 33 d.line d.aX else c
 { c with rules:=c.rules++[⟨d.kind,s,d.lo,d.hi,t,l,d.bV⟩] }
def Pg(d:Dc)(s:Nat)(c:Ck):Ck:=Ph d s (di 2 d.label c).1 (cZ d.wh (di 2 d.label c).2).1 (cZ d.wh (di 2 d.label c).2).2
def L3(d:Dc)(s:Nat×Ck):Ck:=
 if d.kind=6 then { s.2 with rules:=s.2.rules++[⟨6,s.1,0,0,0,[],0⟩] }
 else Pg d s.1 (if d.hi<d.lo\/7<d.hi then s.2.ba 33 d.line d.aX else s.2)
theorem Kj(d:Dc)(c:Ck):il d c=L3 d (di 1 d.role (if c.rules.length=32 then c.ba 2 d.line d.aX else c)):=rfl
theorem JI{k:Nat}{w:gw}{c:Ck}(h:c.fault.err≠0):(di k w c).2.fault.err≠0:=by
 unfold di;by_cases ha:w.any=true
 ·rw[if_pos ha];exact h
 ·rw[if_neg ha];simp only[];have hc:=B9 (e:=21) (l:=w.line) (k:=w.aX) (p:=w.name≠[]/\assoc (c.names k) w.name=none) h;generalize (if w.name≠[]/\assoc (c.names k) w.name=none then c.ba 21 w.line w.aX else c)=c' at *;generalize (if w.name≠[] then (assoc (c.names k) w.name).getD 0 else w.n)=n;by_cases h7:7<n
  ·rw[if_pos h7];exact jB (e:=33) (by decide)
  ·rw[if_neg h7];exact hc
theorem Dj{w:gw}{c:Ck}(h:c.fault.err≠0):(cZ w c).2.fault.err≠0:=by
 unfold cZ;split
 ·exact h
 ·split
  ·exact h
  ·exact jB (e:=21) (by decide)
theorem Gq{d:Dc}{s t:Nat}{l:List Bx}{c:Ck}(h:c.fault.err≠0):(Ph d s t l c).fault.err≠0:=B9 (B9 h)
theorem MD{d:Dc}{s:Nat}{c:Ck}(h:c.fault.err≠0):(Pg d s c).fault.err≠0:=Gq (Dj (JI h))
theorem MC{d:Dc}{s:Nat×Ck}(h:s.2.fault.err≠0):(L3 d s).fault.err≠0:=by
 unfold L3;split
 ·exact h
 ·exact MD (B9 h)
structure DO(pre:List Dv)(c:Ck)(r b:Nat):Prop where
 ok:c.fault.err=0
 n1:∀s,assoc c.kJ s=(fY pre 1 s).map fun y=>y.x.n
 n2:∀s,assoc c.labels s=(fY pre 2 s).map fun y=>y.x.n
 n3:∀s,assoc c.regions s=(fY pre 3 s).map fun y=>y.x.boxes
 rl:c.rules.length=r
 bl:c.boxes=b
 le:r<=32
 ro:c.rules.all Rl.ok=true
 rb:∀y∈pre,y.x.kind=3->y.x.boxes.all ly=true
theorem MT{pre:List Dv}{k:Nat}{w:gw}{c:Ck}(h:c.fault.err=0)(hn:assoc (c.names k) w.name=(fY pre k w.name).map fun y=>y.x.n) :
  ((r9 pre k w).2=0/\(di k w c).2=c)\/((r9 pre k w).2≠0/\(di k w c).2.fault.err≠0):=by
 unfold r9 di;by_cases ha:w.any=true
 ·rw[if_pos ha,if_pos ha];exact .inl ⟨rfl,rfl⟩
 ·rw[if_neg ha,if_neg ha];simp only[];by_cases h0:w.name=[]
  ·rw[if_pos h0];simp only[h0,ne_eq,not_true_eq_false,false_and,if_false];by_cases h7:7<w.n
   ·rw[if_pos h7,if_pos h7];exact .inr ⟨by decide,jB (by decide)⟩
   ·rw[if_neg h7,if_neg h7];exact .inl ⟨rfl,rfl⟩
  ·rw[if_neg h0];simp only[h0,ne_eq,not_false_eq_true,true_and,if_true];rw[hn];cases hd:fY pre k w.name with
   | none=>
     simp only[Option.map_none,Option.getD_none,if_true];exact .inr ⟨by decide,jB (by decide)⟩
   | some y=>
     simp only[Option.map_some,Option.getD_some,reduceCtorEq,if_false];by_cases h7:7<y.x.n
     ·rw[if_pos h7,if_pos h7];exact .inr ⟨by decide,jB (by decide)⟩
     ·rw[if_neg h7,if_neg h7];exact .inl ⟨rfl,rfl⟩
theorem MS{k:Nat}{w:gw}{c:Ck}:(di k w c).1<=255:=by
 unfold di;by_cases ha:w.any=true
 ·rw[if_pos ha];exact Nat.le_refl _
 ·rw[if_neg ha];simp only[];generalize (if w.name≠[] then (assoc (c.names k) w.name).getD 0 else w.n)=n;by_cases h7:7<n
  ·rw[if_pos h7];exact Nat.zero_le _
  ·rw[if_neg h7];exact Nat.le_trans (Nat.pow_le_pow_right (by decide) (show n<=7 by omega)) (by decide)
theorem OP{pre:List Dv}{w:gw}{c:Ck}(hb:∀y∈pre,y.x.kind=3->y.x.boxes.all ly=true)(hn:assoc c.regions w.name=(fY pre 3 w.name).map fun y=>y.x.boxes) :
  (∃l,uJ pre w=some l.length/\cZ w c=(l,c)/\l.all ly=true)\/(uJ pre w=none/\(cZ w c).2.fault.err≠0):=by
 unfold uJ cZ;by_cases ha:w.any=true
 ·rw[if_pos ha,if_pos ha];exact .inl ⟨_,rfl,rfl,rfl⟩
 ·rw[if_neg ha,if_neg ha,hn];cases hd:fY pre 3 w.name with
  | none=>exact .inr ⟨rfl,jB (by decide)⟩
  | some y=>
    have hy:=List.find?_some hd;simp only[Bool.and_eq_true,decide_eq_true_eq] at hy;exact .inl ⟨_,rfl,rfl,hb y (List.mem_of_find?_eq_some hd) hy.1⟩
theorem R8{pre:List Dv}{c:Ck}{r b:Nat}{d:Dc}(h:DO pre c r b)(hk:4<=d.kind/\d.kind<=6) :
  (∃n ru,jU pre d r b=some n/\il d c={ c with rules:=c.rules++[ru],boxes:=b+n }/\ru.ok=true)\/(jU pre d r b=none/\(il d c).fault.err≠0):=by
 rw[Kj];unfold jU;by_cases lI:32<=r
 ·rw[if_pos lI,if_pos (show c.rules.length=32 by have:=h.le;have:=h.rl;omega)];exact .inr ⟨rfl,MC (JI (jB (by decide)))⟩
 rw[if_neg lI,if_neg (show ¬c.rules.length=32 by have:=h.rl;omega)];rcases MT (w:=d.role) h.ok (k:=1) (h.n1 _) with ⟨h1,h2⟩|⟨h1,h2⟩
 ·rw[if_neg (fun x=>x h1)];unfold L3;rw[h2];by_cases h6:d.kind=6
  ·rw[if_pos h6,if_pos h6];exact .inl ⟨0,_,rfl,by rw[Nat.add_zero,<-h.bl],by unfold Rl.ok;rw[if_pos rfl];simp[MS]⟩
  rw[if_neg h6,if_neg h6];by_cases h3:d.hi<d.lo\/7<d.hi
  ·rw[if_pos h3,if_pos h3];exact .inr ⟨rfl,MD (jB (by decide))⟩
  rw[if_neg h3,if_neg h3];unfold Pg;rcases MT (w:=d.label) h.ok (k:=2) (h.n2 _) with ⟨h4,h5⟩|⟨h4,h5⟩
  ·rw[if_neg (fun x=>x h4),h5];rcases OP (w:=d.wh) h.rb (h.n3 _) with ⟨l,h7,h8,hlb⟩|⟨h7,h8⟩
   ·rw[h7,h8];simp only[];unfold Ph;simp only[h.bl];by_cases h9:32<b+l.length
    ·rw[if_pos h9,if_pos h9];exact .inr ⟨rfl,B9 (jB (by decide))⟩
    rw[if_neg h9,if_neg h9];by_cases od:16<d.bV
    ·rw[if_pos od,if_pos od];exact .inr ⟨rfl,jB (by decide)⟩
    rw[if_neg od,if_neg od];exact .inl ⟨_,_,rfl,rfl,by unfold Rl.ok;rw[if_neg h6,if_pos (show d.kind=4\/d.kind=5 by omega)];simp[MS,hlb];omega⟩
   ·rw[h7];exact .inr ⟨rfl,Gq h8⟩
  ·rw[if_pos h4];exact .inr ⟨rfl,Gq (Dj h5)⟩
 ·rw[if_pos h1];exact .inr ⟨rfl,MC h2⟩
theorem eZ(pre:List Dv)(y:Dv)(k:Nat)(s:List UInt8):fY (pre++[y]) k s=(fY pre k s).or (if y.x.kind=k/\y.x.name=s then some y else none):=by
 unfold fY;rw[List.find?_append];congr 1;rw[List.find?_cons,List.find?_nil];by_cases h1:y.x.kind=k
 ·by_cases h2:y.x.name=s
  ·rw[decide_eq_true h1,decide_eq_true h2,if_pos ⟨h1,h2⟩];rfl
  ·rw[decide_eq_false h2,Bool.and_false,if_neg fun h=>h2 h.2]
 ·rw[decide_eq_false h1,Bool.false_and,if_neg fun h=>h1 h.1]
theorem sD{β:Type}(l:List (List UInt8×β))(n s:List UInt8)(v:β):assoc (l++[(n,v)]) s=(assoc l s).or (if n=s then some v else none):=by
 unfold assoc;rw[List.find?_append,Option.map_or];congr 1;rw[List.find?_cons,List.find?_nil];by_cases h:n=s
 ·rw[decide_eq_true h,if_pos h];rfl
 ·rw[decide_eq_false h,if_neg h];rfl
theorem JR{pre:List Dv}{c:Ck}{r b:Nat}{y:Dv}(h:DO pre c r b)(hb:b<=32)(hm:fV y.x=true) :
  (∃x,C0 pre y.x r b=some x/\DO (pre++[y]) (ep y.x c) x.1 x.2/\x.2<=32)\/(C0 pre y.x r b=none/\(ep y.x c).fault.err≠0):=by
 have hk:1<=y.x.kind/\y.x.kind<=6:=by
  unfold fV at hm;repeat' split at hm
  all_goals first|omega|cases hm
 unfold C0 ep;by_cases h3:3<y.x.kind
 ·rw[if_pos h3,if_neg (show ¬(y.x.kind=1\/y.x.kind=2) by omega),if_neg (show ¬y.x.kind=3 by omega)];rcases R8 (d:=y.x) h ⟨h3,hk.2⟩ with ⟨n,ru,h1,h2,vC⟩|⟨h1,h2⟩
  ·have hle:=EP h1 hb;rw[h1,h2];refine .inl ⟨_,rfl,⟨h.ok,fun s=>?_,fun s=>?_,fun s=>?_,?_,rfl,hle.1,?_,fun z hz KU=>?_⟩,hle.2⟩
   ·rw[eZ,if_neg (by omega),Option.or_none];exact h.n1 s
   ·rw[eZ,if_neg (by omega),Option.or_none];exact h.n2 s
   ·rw[eZ,if_neg (by omega),Option.or_none];exact h.n3 s
   ·show (c.rules++[ru]).length=r+1
    rw[List.length_append,h.rl];rfl
   ·show (c.rules++[ru]).all Rl.ok=true
    rw[List.all_append,h.ro,List.all_cons,vC];rfl
   ·rcases List.mem_append.1 hz with hz|hz
    ·exact h.rb z hz KU
    ·rw[List.mem_singleton] at hz;subst hz;omega
  ·rw[h1];exact .inr ⟨rfl,h2⟩
 ·rw[if_neg h3];by_cases hr:y.x.kind=3
  ·rw[if_neg (show ¬(y.x.kind=1\/y.x.kind=2) by omega),if_pos hr];unfold gQ zf;rw[h.n3,hr,Option.isSome_map,decide_eq_false (by omega:¬(3:Nat)<3),Bool.false_and,Bool.false_or];cases hd:fY pre 3 y.x.name with
   | some z=>exact .inr ⟨rfl,jB (by decide)⟩
   | none=>
     simp only[Option.isSome_none,Bool.false_or,Bool.false_eq_true,if_false];by_cases hx:(!y.x.boxes.all ly)=true
     ·rw[if_pos hx,if_pos hx];exact .inr ⟨rfl,jB (by decide)⟩
     ·rw[if_neg hx,if_neg hx];refine .inl ⟨_,rfl,⟨h.ok,fun s=>?_,fun s=>?_,fun s=>?_,h.rl,h.bl,h.le,h.ro,fun z hz KU=>?_⟩,hb⟩
      ·rw[eZ,if_neg (by omega),Option.or_none];exact h.n1 s
      ·rw[eZ,if_neg (by omega),Option.or_none];exact h.n2 s
      ·rw[sD,eZ,h.n3,Option.map_or];congr 1;by_cases hs:y.x.name=s
       ·rw[if_pos hs,if_pos ⟨hr,hs⟩];rfl
       ·rw[if_neg hs,if_neg fun h=>hs h.2];rfl
      ·rcases List.mem_append.1 hz with hz|hz
       ·exact h.rb z hz KU
       ·rw[List.mem_singleton] at hz;subst hz;simpa using hx
  ·rw[if_pos (show y.x.kind=1\/y.x.kind=2 by omega)];have Td:y.x.boxes=[]:=by
    unfold fV at hm;rw[if_pos (show y.x.kind=1\/y.x.kind=2 by omega)] at hm;simp only[Bool.and_eq_true,decide_eq_true_eq] at hm;exact hm.1.1.2
   unfold fk zf;rw[Td,decide_eq_true (by omega:y.x.kind<3),Bool.true_and,List.all_nil,Bool.not_true,Bool.or_false];have NT:assoc (c.names y.x.kind) y.x.name=(fY pre y.x.kind y.x.name).map fun y=>y.x.n:=by
    unfold Ck.names;by_cases h1:y.x.kind=1
    ·rw[if_pos h1,h1];exact h.n1 _
    ·rw[if_neg h1,(by omega:y.x.kind=2)];exact h.n2 _
   rw[NT,Option.isSome_map];cases hd:fY pre y.x.kind y.x.name with
   | some z=>exact .inr ⟨rfl,jB (by decide)⟩
   | none=>
     simp only[Option.isSome_none,Bool.false_or,Bool.false_eq_true,if_false];by_cases h7:7<y.x.n
     ·rw[if_pos h7,decide_eq_true h7];exact .inr ⟨rfl,jB (by decide)⟩
     ·rw[if_neg h7,decide_eq_false h7];by_cases h1:y.x.kind=1
      ·rw[if_pos h1];refine .inl ⟨_,rfl,⟨h.ok,fun s=>?_,fun s=>?_,fun s=>?_,h.rl,h.bl,h.le,h.ro,fun z hz KU=>?_⟩,hb⟩
       ·rw[sD,eZ,h.n1,Option.map_or];congr 1;by_cases hs:y.x.name=s
        ·rw[if_pos hs,if_pos ⟨h1,hs⟩];rfl
        ·rw[if_neg hs,if_neg fun h=>hs h.2];rfl
       ·rw[eZ,if_neg (by omega),Option.or_none];exact h.n2 s
       ·rw[eZ,if_neg (by omega),Option.or_none];exact h.n3 s
       ·rcases List.mem_append.1 hz with hz|hz
        ·exact h.rb z hz KU
        ·rw[List.mem_singleton] at hz;subst hz;omega
      ·have h2:y.x.kind=2:=by omega
       rw[if_neg h1];refine .inl ⟨_,rfl,⟨h.ok,fun s=>?_,fun s=>?_,fun s=>?_,h.rl,h.bl,h.le,h.ro,fun z hz KU=>?_⟩,hb⟩
       ·rw[eZ,if_neg (by omega),Option.or_none];exact h.n1 s
       ·rw[sD,eZ,h.n2,Option.map_or];congr 1;by_cases hs:y.x.name=s
        ·rw[if_pos hs,if_pos ⟨h2,hs⟩];rfl
        ·rw[if_neg hs,if_neg fun h=>hs h.2];rfl
       ·rw[eZ,if_neg (by omega),Option.or_none];exact h.n3 s
       ·rcases List.mem_append.1 hz with hz|hz
        ·exact h.rb z hz KU
        ·rw[List.mem_singleton] at hz;subst hz;omega
theorem zg:∀{l pre:List Dv} {c:Ck} {r b:Nat},DO pre c r b->b<=32->(∀y∈l,fV y.x=true)->((kE (l.map Dv.x) c).fault.err=0↔lP pre l r b=true)
 | [],_,_,_,_,h,_,_=>⟨fun _=>rfl,fun _=>h.ok⟩
 | y::l,pre,c,r,b,h,hb,hm=>by
   rw[List.map_cons,kE,lP];rcases JR (y:=y) h hb (hm y List.mem_cons_self) with ⟨x,h1,h2,h3⟩|⟨h1,h2⟩
   ·rw[h1,if_pos h2.ok];exact zg h2 h3 fun z hz=>hm z (List.mem_cons_of_mem _ hz)
   ·rw[h1,if_neg h2];exact ⟨fun h=>absurd h h2,fun h=>by cases h⟩
theorem Hy:DO [] Ck.zero 0 0:=⟨rfl,fun _=>rfl,fun _=>rfl,fun _=>rfl,rfl,rfl,by decide,rfl,fun _ h=>by cases h⟩
theorem D0:∀{l pre:List Dv} {c:Ck} {r b:Nat},DO pre c r b->b<=32->(∀y∈l,fV y.x=true)->(kE (l.map Dv.x) c).fault.err=0->(kE (l.map Dv.x) c).rules.all Rl.ok=true
 | [],_,_,_,_,h,_,_=>fun _=>h.ro
 | y::l,pre,c,r,b,h,hb,hm=>by
   rw[List.map_cons,kE];rcases JR (y:=y) h hb (hm y List.mem_cons_self) with ⟨x,_,h2,h3⟩|⟨_,h2⟩
   ·rw[if_pos h2.ok];exact D0 h2 h3 fun z hz=>hm z (List.mem_cons_of_mem _ hz)
   ·rw[if_neg h2];exact fun h=>absurd h h2
theorem Oj{s:List UInt8}(h:(hU s).2.err=0):(hU s).1.all Rl.ok=true:=by
 unfold hU at h ⊢;by_cases hp:(parse s).2.err=0
 ·rw[if_pos hp] at h ⊢;have hm:=Cp hp;obtain ⟨ds,hd⟩:∃ds:List Dv,ds.map Dv.x=(parse s).1:=⟨(parse s).1.map fun x=>⟨x,none,0⟩,by rw[List.map_map];exact List.map_id _⟩;rw[<-hd] at h hm ⊢;have hm:∀y∈ds,fV y.x=true:=fun y hy=>hm _ (List.mem_map_of_mem hy);have h0:(ds.map Dv.x).all fV=true:=by
   rw[List.all_map,List.all_eq_true];exact hm
  unfold check at h ⊢;rw[h0] at h ⊢;simp only[Bool.not_true,Bool.false_eq_true,if_false] at h ⊢;split
  ·rename_i hz;exact D0 Hy (by decide) hm hz
  ·rfl
 ·rw[if_neg hp] at h;exact absurd h hp
theorem Dq{ds:List Dv}(hm:∀y∈ds,fV y.x=true):lP [] ds 0 0=true↔(check (ds.map Dv.x)).2.err=0:=by
 have h0:(ds.map Dv.x).all fV=true:=by
  rw[List.all_map,List.all_eq_true];exact hm
 unfold check;rw[h0];simp only[Bool.not_true,Bool.false_eq_true,if_false];rw[<-zg (l:=ds) (pre:=[]) (c:=Ck.zero) (r:=0) (b:=0) Hy (by decide) hm];split
 ·rename_i h;exact ⟨fun _=>rfl,fun _=>h⟩
 ·rename_i h;exact Iff.rfl
theorem Oi{R:aC}{A:Option Addr}{m c:Nat}{ds:List Dv}(h:qM R A m ds)(hc:ds.length<=c)(hm:∀y∈ds,fV y.x=true):CP [] 35 [.lit (.slice A ds.length c)] [.res R] (fun v H'=>∃(A:Option Addr) (n q e l c:Nat),v=.tuple [.lit (.slice A n q),.agg [iA e,iA l,iA c]]/\(e=0↔(check (ds.map Dv.x)).2.err=0)/\∃G,H'=.res R::G):=by
 refine aj.QG (aj.pre (eg.more (R:=aA fg 7 gu aD []) rfl (bj.gO fw _)) (Rv h hc hm)) ?_;rintro _ H' ⟨rv,e,l,cc,rfl,hv,he,hG⟩;rw[Dq hm] at he;rcases hv with ⟨A,n,q,rfl⟩|⟨o,rfl⟩
 ·exact .inl ⟨A,n,q,e,l,cc,rfl,he,hG⟩
 ·exact .inr ⟨o,_,rfl,fun a=>⟨some a,0,0,e,l,cc,rfl,he,hG⟩⟩
theorem EL{n m:Int}{S:List Nat}{H:List ai}{K:AV->List ai->Prop}(k:K (bA (decide (0<=n/\n<=m))) H):CP S 30 [iA n,iA m] H K:=by
 refine aj.pure ?_ (fun _=>rfl) (fun _=>rfl) k;clear k;refine ag aa rfl ?_;repeat' ((conv=>whnf);first|with_reducible apply af<;>intro _|refine ag aa rfl ?_)
 all_goals
  refine bc ?_
  simp_all
 all_goals omega
theorem CM{S:List Nat}{H:List ai}{K:AV->List ai->Prop}{m:Mem}(k:K (bA m.right) H):CP S 90 [.agg (mA m)] H K:=by
 refine aj.pure ?_ (fun _=>rfl) (fun _=>rfl) k;clear k;refine ag aa rfl ?_;repeat' ((conv=>whnf);first|with_reducible apply af<;>intro _|refine ag aa rfl ?_)
 all_goals
  refine bc ?_
  simp_all [Mem.right]
 all_goals omega
theorem Jr{n a:Int}{S:List Nat}{H:List ai}{K:AV->List ai->Prop}(k:K (bA (decide (1<=n/\n<=65535))) H):CP S 91 [.agg [iA n,uA a]] H K:=by
 refine aj.pure ?_ (fun _=>rfl) (fun _=>rfl) k;clear k;refine ag aa rfl ?_;repeat' ((conv=>whnf);first|with_reducible apply af<;>intro _|refine ag aa rfl ?_)
 all_goals
  refine bc ?_
  simp_all
 all_goals omega
theorem tQ{x0 y0 x1 y1:Int}{S:List Nat}{H:List ai}{K:AV->List ai->Prop}(k:K (bA (o4 x0 y0 x1 y1)) H):CP S 33 [.agg [iA x0,iA y0,iA x1,iA y1]] H K:=by
 refine aj.pure ?_ (fun _=>rfl) (fun _=>rfl) k;clear k;refine ag aa rfl ?_;repeat' ((conv=>whnf);first|with_reducible apply af<;>intro _|refine ag aa rfl ?_)
 all_goals
  refine bc ?_
  simp_all [o4]
 all_goals omega
theorem Ux{S:List Nat}{H:List ai}{K:AV->List ai->Prop}{g:Fg}(k:K (bA g.right) H):CP S 93 [.agg [iA g.ops,iA g.bV,iA g.x0,iA g.y0,iA g.x1,iA g.y1,bA g.void,iA g.mD]] H K:=by
 refine aj.pure ?_ (fun _=>rfl) (fun _=>rfl) k;clear k;refine ag aa rfl ?_;repeat' ((conv=>whnf);first|with_reducible apply af<;>intro _|refine tQ ?_|refine ag aa rfl ?_)
 all_goals
  refine bc ?_
  simp_all [Fg.right]
 all_goals omega
theorem EG{R:aC}{oa:Option Addr}{c:Nat}{ms:List Mem}{u:Int}(h:cU Tryz.prog R 51 6 oa mC ms)(hn:ms.length<=1000000):CP [] 32 [.lit (.slice oa ms.length c),iA u] [.res R] (fun v H'=>∃z:Mem,v=.tuple [.agg (mA z),bA ((ms.map Mem.user).any fun y=>y==u)]/\∃G,H'=.res R::G):=by
 obtain ⟨o,ho⟩:∃o,o=(ms.map Mem.user).any fun y=>y==u:=⟨_,rfl⟩;rw[<-ho];refine ag aa rfl ?_;conv=>whnf
 refine aV aa rfl (fun i:Nat=>[(0,.lit (.slice oa ms.length c)),(1,iA u),(4,.ptr 1 0),(6,iA (i:Nat))]) (fun _=>[.res R,.cells [iA 0,iA 0,iA 0,iA 0,iA 0,uA 0] 51]) (fun i=>i<=ms.length/\o=((ms.drop i).map Mem.user).any fun y=>y==u) (fun i=>ms.length - i) 0 ⟨Nat.zero_le _,ho⟩ [0,1] ⟨rfl,⟨rr,rr,rr,rr,tU⟩,⟨ko,⟨_,rfl,rfl⟩,tU⟩⟩ ?_;rintro i ⟨hi,he⟩;clear ho;by_cases an:i<ms.length
 ·obtain ⟨a,rfl,bu⟩:=h.at an;rw[List.drop_eq_getElem_cons an,List.map_cons,List.any_cons] at he;have cQ:lg Tryz.prog R 51 6 a mC ms:=bu;have k1:=lg.j8 (j:=0) (u:=.int .i64 ms[i].user) (ty2:=3) aa cQ ⟨_,rfl,rfl⟩ an ⟨_,rfl,rfl⟩ rfl;have k3:=fun w S hw=>bu w S hw i an;obtain ⟨y,hy⟩:∃y,y=ms[i]:=⟨_,rfl⟩;rw[<-hy] at he k1;simp only[<-hy] at k3;repeat' ((conv=>whnf);first|with_reducible apply af<;>intro _|(exfalso;exact bT an (by assumption))|refine al.bC aa rfl rfl rfl rfl rfl an ?_|refine al.kN aa rfl rfl rfl rfl rfl rfl ?_|refine al.aR (i:=0) (v:=iA y.user) rfl k1 rfl rfl ?_|refine al.aR (i:=0) (v:=.agg (mA y)) rfl k3 rfl rfl ?_|refine ag aa rfl ?_)
  all_goals (try conv=>whnf)
  ·rename_i hk;rw[hk,Bool.true_or] at he;subst he;exact ⟨y,rfl,_,rfl⟩
  ·rename_i hk;rw[hk,Bool.false_or] at he;exact ⟨i+1,[0,1],⟨⟨an,he⟩,Nat.sub_lt_sub_left an (Nat.lt_succ_self _)⟩,rfl,⟨rr,rr,rr,⟨rfl,ax rfl (ak (by omega) (by omega))⟩,tU⟩,⟨ko,⟨_,rfl,rfl⟩,tU⟩⟩
 ·obtain rfl:i=ms.length:=by omega
  rw[List.drop_length,List.map_nil,List.any_nil] at he;subst he;repeat' ((conv=>whnf);first|with_reducible apply af<;>intro _|(exfalso;exact cF an (by assumption))|refine ag aa rfl ?_)
  all_goals (try conv=>whnf)
  all_goals exact ⟨⟨0,0,0,0,0,0⟩,rfl,_,rfl⟩
