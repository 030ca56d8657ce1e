/- Part of the proof: Lx5 Lx6 PolQ Rul PolP2. Conditions: as each states. -/
import Derived.Test.YtmbdghclhpboaaaGreatPq27
set_option linter.all false
set_option maxRecDepth 100000
namespace Go.Proofs.YtmbdghclhpboaaaGreat
open Ev Go.RowKit
theorem du{α:Type}{enc:α->List Value}{k:Nat}{e:TypeId}{v:Value}{l:List α}(w:World)(S:Nat->Prop)(h:(aA enc k e v l).at_ w S):bD [aA enc k e v l,aB] w S:=
 ⟨S,fun _=>False,h,⟨fun _=>False,fun _=>False,fun _ h=>h,fun _ h=>h,fun _ h _=>h,fun b=>by simp⟩,fun _ _ h=>h,fun b=>by simp⟩
theorem ee{α:Type}{enc:α->List Value}{k:Nat}{e:TypeId}{v:Value}{l:List α}(w:World)(S:Nat->Prop)(h:bD [aA enc k e v l,aB] w S):(aA enc k e v l).at_ w S:=by
 obtain ⟨S1,S2,h1,⟨T1,T2,k1,k2,_,sg⟩,_,hS⟩:=h;refine ⟨h1.1,fun b=>?_⟩;rw[hS b,sg b];have e1:=h1.2 b;have e2:=k1 b;have e3:=k2 b;exact ⟨fun h=>h.elim e1.1 (fun h=>h.elim (fun h=>absurd h e2) (fun h=>absurd h e3)),fun h=>.inl (e1.2 h)⟩
theorem fw{α:Type}{enc:α->List Value}{k:Nat}{e:TypeId}(w:World):(aA enc k e aD ([]:List α)).at_ w fun _=>False:=⟨Own.nil,fun b=>by simp[aD,Value.ownBlock]⟩
theorem jj{α:Type}{enc:α->List Value}{k:Nat}{e:TypeId}{base:Nat}{w0:World}{A:Option Addr}{m:Nat}{l:List α}(h:Own enc k e w0 base (.slice A l.length m) l)(aP:l≠[]):∃b off,A=some ⟨b,off,none⟩/\base<=b/\ir w0 b off (l.flatMap enc):=by
 have nC:0<l.length:=List.length_pos_iff.2 aP;obtain ⟨A',m',e,_,h2,h3⟩:=h.sl;injection e with e1 e2 e3;subst e1;subst e3;obtain ⟨b,off,rfl,hb,hl⟩:=h3 nC;refine ⟨b,off,rfl,?_,hl⟩;rcases h.2 with ⟨h1,h0⟩|⟨g,cap,cur,h1,hg,_⟩
 ·omega
 ·injection h1 with e1 e2 e3;injection e1 with e1;injection e1 with e1 e2 e3;omega
structure iu(R:aC)(A:Option Addr)(L:List Tk):Prop where
 lay:L≠[]->∃a,A=some a/\∀w S,R.at_ w S->∃b off,a=⟨b,off,none⟩/\ir w b off (L.flatMap pn)
 len:L.length<=1000000
theorem iu.rd{R:aC}{A:Option Addr}{L:List Tk}(h:iu R A L):cU Tryz.prog R o8 5 A (fun t=>.agg (pn t).toArray) L:=fun aP=>by
 obtain ⟨a,rfl,hy⟩:=h.lay aP;by_cases hx:∃w S,R.at_ w S
 ·obtain ⟨w0,S0,h0⟩:=hx;obtain ⟨b,off,rfl,_⟩:=hy w0 S0 h0;exact cU.lay aa uc ⟨_,rfl,rfl,rfl⟩ (fun _=>⟨b,off,rfl,fun w S hw=>by
   obtain ⟨b',I6,e,hl⟩:=hy w S hw;cases e
   exact hl⟩) aP
 ·exact ⟨a,rfl,fun w S hw=>absurd ⟨w,S,hw⟩ hx⟩
theorem iu.nil{R:aC}{A:Option Addr}:iu R A []:=⟨fun h=>absurd rfl h,Nat.zero_le _⟩
theorem iu.one{R:aC}{a:Addr}{L:List Tk}(h:iu R (some a) L){ty i j:Nat}{u:Value}(kW:∃r,ev.ty ty=some r/\bQ r.bp=false)(hi:i<L.length)(hu:(pn L[i])[j]?=some u)(w:World)(S:Nat->Prop)(hw:R.at_ w S):(loadVar ty ((a.add (i * 5)).add j)).run Tryz.prog w=.ok u w:=by
 obtain ⟨a',e,hl⟩:=h.rd (by rintro rfl;simp at hi);cases e
 exact lg.j8 aa hl ⟨_,rfl,rfl⟩ hi kW hu w S hw
theorem iu.pos{R:aC}{a:Addr}{L:List Tk}(h:iu R (some a) L){i:Nat}(hi:i<L.length)(w:World)(S:Nat->Prop)(hw:R.at_ w S):(loadVar 84 ((a.add (i * 5)).add 3)).run Tryz.prog w=.ok (.agg #[.int .i64 (L[i].line:Int),.int .i64 (L[i].aX:Int)]) w:=by
 obtain ⟨a',e,hl⟩:=h.rd (by rintro rfl;simp at hi);cases e
 exact lg.zu (n2:=2) (cs:=[.int .i64 (L[i].line:Int),.int .i64 (L[i].aX:Int)]) aa hl ⟨_,rfl,rfl⟩ hi ⟨_,rfl,rfl,rfl⟩ rfl rfl w S hw
theorem JZ{v:Value}{A:Option Addr}{m:Nat}{L:List Tk}(hv:cS v L)(he:v=.slice A L.length m)(hl:L.length<=1000000):iu (aA pn 5 o8 v L) A L:=by
 subst he;refine ⟨fun aP=>?_,hl⟩;rcases hv with ⟨h,h2⟩|⟨a,n,h⟩
 ·exact absurd h2 aP
 ·injection h with h1;subst h1;refine ⟨a,rfl,fun w S hw=>?_⟩;obtain ⟨b,off,e,_,hl⟩:=jj hw.1 aP;exact ⟨b,off,Option.some.inj e,hl⟩
theorem xq{α:Type}{enc:α->List Value}{k:Nat}{e:TypeId}{A:Option Addr}{m:Nat}{l:List α}{w:World}{S:Nat->Prop}(h:(aA enc k e (.slice A l.length m) l).at_ w S):l.length<=m:=by
 obtain ⟨A',m',e1,hm,_⟩:=h.1.sl;injection e1 with _ _ e3;omega
def qh(f:kz):List AV:=[iA f.err,iA f.line,iA f.aX]
theorem Au:iO ev 165 o8 5:=⟨⟨_,rfl,rfl⟩,_,_,rfl,rfl,rfl,rfl,by decide⟩
theorem xX:∀t:Tk,∀u∈pn t,u.oneCell'=true:=fun t u h=>by
 simp only[pn,List.mem_cons,List.not_mem_nil,or_false] at h;rcases h with rfl|rfl|rfl|rfl|rfl<;>rfl
structure YK where
 q:Pt
 out:List Tk
 v:Value
def Hf(s:List UInt8):AV->List ai->Prop:=fun v H'=>∃A m R,(iu R A (dP s).1/\∀w S,R.at_ w S->(dP s).1.length<=m)/\v=.tuple [.lit (.slice A (dP s).1.length m),.agg (qh (dP s).2)]/\∃G,H'=.res R::G
theorem tV{α:Type}{v:Value}{l:List α}(h:cS v l):∃A m,v=.slice A l.length m:=by
 rcases h with ⟨rfl,rfl⟩|⟨A,n,rfl⟩<;>exact ⟨_,_,rfl⟩
theorem Rt{s:List UInt8}:CP [] 217 [.lit (dw s)] [.res (aA pn 5 o8 aD [])] (Hf s):=by
 by_cases hl:512<s.length
 ·have e:dP s=([],⟨2,1,1⟩):=by unfold dP;rw[if_pos hl]
  unfold Hf;rw[e];refine ag aa rfl ?_;refine eX.of rfl rfl ?_;refine aI.az fun F hF=>?_;repeat' ((conv=>whnf);first|with_reducible apply af<;>intro _|refine aM.drawn aa rfl rfl ?_|with_reducible refine And.intro (aN.mk ⟨_,rfl,rfl⟩) ?_|(refine (Ge (s:=s)).use [] rfl rfl trivial ?_;rintro _ _ ⟨rfl,G,rfl⟩;refine ⟨[0],?_⟩)|refine (Gg (s:=s) (p:=Pt.zero)).g [2] rfl rfl ⟨⟨_,rfl,rfl⟩,tU⟩ fun G=>?_|(exfalso;rename_i hx;have:=dF1 hx;exact this (Int.ofNat_lt.2 hl))|(show F _ _ _;subst hF;refine aI.az fun F hF=>?_)|(show F _ _ _;subst hF)|refine ag aa rfl ?_)
  all_goals (try conv=>whnf)
  exact ⟨none,0,_,⟨iu.nil,fun _ _ _=>Nat.zero_le _⟩,rfl,_,rfl⟩
 ·have e:dP s=jW s Pt.zero []:=by unfold dP;rw[if_neg hl];rfl
  unfold Hf;rw[e];obtain ⟨TT,Iu⟩:∃TT,TT=jW s Pt.zero []:=⟨_,rfl⟩;rw[<-Iu];clear e;refine ag aa rfl ?_;refine eX.of rfl rfl ?_;refine aI.az fun F hF=>?_;repeat' ((conv=>whnf);first|with_reducible apply af<;>intro _|refine aM.drawn aa rfl rfl ?_|with_reducible refine And.intro (aN.mk ⟨_,rfl,rfl⟩) ?_|(refine (Ge (s:=s)).use [] rfl rfl trivial ?_;rintro _ _ ⟨rfl,G,rfl⟩;refine ⟨[0],?_⟩)|(exfalso;rename_i hx;have:=dT1 hx;exact hl (Int.ofNat_lt.1 this))|(show F _ _ _;subst hF;refine aI.az fun F hF=>?_)|(show F _ _ _;subst hF)|refine ag aa rfl ?_)
  refine aV aa rfl (fun x:YK=>[(0,.lit (dw s)),(3,.ptr 1 0),(4,.ptr 2 0),(5,.lit x.v)]) (fun x=>[.res (aA pn 5 o8 x.v x.out),.cells [iA 0,iA 0,iA 0] 86,o5 s x.q])
   (fun x=>x.q.i<=s.length/\x.q.low/\jW (s.drop x.q.i) x.q x.out=TT/\cS x.v x.out/\x.out.length<=x.q.i) (fun x=>s.length - x.q.i) ⟨Pt.zero,[],aD⟩ ⟨Nat.zero_le _,Pt.yG,Iu.symm,.inl ⟨rfl,rfl⟩,Nat.le_refl _⟩ [0,1,2] ?_ ?_
  ·exact ⟨rfl,⟨rr,rr,rr,rr,tU⟩,⟨ko,⟨_,rfl,rfl⟩,⟨_,rfl,rfl⟩,tU⟩⟩
  ·rintro ⟨q,out,v⟩ ⟨h1,h2,h3,h4,h5⟩;simp only[] at h1 h2 h3 h4 h5;have hs:=XZ h1 (by omega) h2;obtain ⟨l,tm⟩:∃l,l=s.drop q.i:=⟨_,rfl⟩;have oS:l.length=s.length - q.i:=by rw[tm,List.length_drop]
   have hk:=EX l;rw[<-tm] at h3 hs;obtain ⟨q1,yw⟩:∃q1,q1=q.jZ (l.take (eM l)):=⟨_,rfl⟩;have P5:q1.i=q.i+eM l:=by rw[yw,Pt.u9,List.length_take,Nat.min_eq_left hk]
   have xg:q1.low:=by rw[yw];exact Pt.oV _ h2
   have hd:s.drop q1.i=l.drop (eM l):=by rw[P5,tm,List.drop_drop]
   rw[<-yw] at hs;have hp:=Gg (s:=s) (p:=q1);by_cases hend:q1.i=s.length
   ·have hT:TT=(out,kz.ok):=by rw[<-h3];exact Dd l q out (by rw[<-hd,hend,List.drop_length])
    subst hT;obtain ⟨A,m,rfl⟩:=tV h4;clear hd P5 yw h3;refine aI.az fun F hF=>?_;repeat' ((conv=>whnf);first|with_reducible apply af<;>intro _|refine aM.drawn aa rfl rfl ?_|with_reducible refine And.intro (aN.mk ⟨_,rfl,rfl⟩) ?_|refine hs.g [2] rfl rfl ⟨⟨_,rfl,rfl⟩,tU⟩ fun G=>?_|refine hp.g [2] rfl rfl ⟨⟨_,rfl,rfl⟩,tU⟩ fun G=>?_|(exfalso;rename_i hx;exact ne_of_beq_false hx (congrArg Int.ofNat hend))|(show F _ _ _;subst hF;refine aI.az fun F hF=>?_)|(show F _ _ _;subst hF)|refine ag aa rfl ?_)
    all_goals (try conv=>whnf)
    ·exact ⟨A,m,_,⟨JZ h4 rfl (by show out.length<=_;omega),fun _ _ h=>xq h⟩,rfl,_,rfl⟩
   ·have an:q1.i<s.length:=by omega
    have hn:=XX an (by omega) xg;have aP:s.drop q1.i≠[]:=fun h=>by have:=congrArg List.length h;rw[List.length_drop] at this;simp at this;omega
    unfold Fh at hn;obtain ⟨m,hm⟩:∃m,m=s.drop q1.i:=⟨_,rfl⟩;rw[<-hm] at hn aP;have tn:m.length=s.length - q1.i:=by rw[hm,List.length_drop]
    by_cases he:(cH m).2=0
    ·have hT:=zT l m q out (by rw[hm,hd]) aP he;rw[h3,<-yw] at hT;obtain ⟨c,r,w5⟩:∃c r,m=c::r:=by
      cases m with
      | nil=>exact absurd rfl aP
      | cons c r=>exact ⟨c,r,rfl⟩
     obtain ⟨Qp,xe⟩:=oY c r (by rw[<-w5];exact he);rw[<-w5] at Qp xe;have IM:(cH m).1.text.length<=m.length:=by
      have:=congrArg List.length xe;rw[List.length_take] at this;omega
     obtain ⟨t,ht⟩:∃t,t=cH m:=⟨_,rfl⟩;rw[<-ht] at hn he Qp IM hT;rw[he] at hn;clear hd yw ht w5 xe h3;rcases h4 with ⟨rfl,rfl⟩|⟨A0,c0,rfl⟩
     ·refine aI.az fun F hF=>?_;repeat' ((conv=>whnf);first|with_reducible apply af<;>intro _|refine aM.drawn aa rfl rfl ?_|with_reducible refine And.intro (aN.mk ⟨_,rfl,rfl⟩) ?_|refine hs.g [2] rfl rfl ⟨⟨_,rfl,rfl⟩,tU⟩ fun G=>?_|refine hp.g [2] rfl rfl ⟨⟨_,rfl,rfl⟩,tU⟩ fun G=>?_|(exfalso;rename_i hx;exact hend (Int.ofNat.inj (eq_of_beq hx)))|(refine hn.use [2] rfl rfl ⟨⟨_,rfl,rfl⟩,tU⟩ ?_;rintro _ _ ⟨rfl,q2,G,sj,rfl⟩;refine ⟨[],?_⟩)|(refine dx.om (eH.iw aa Au uc (by decide) xX (i:=0) (y:={ t.1 with line:=q1.line,aX:=q1.aX }) (l:=([]:List Tk)) (v:=aD) (R1:=aB) (R':=fun v'=>aA pn 5 o8 v' (([]:List Tk)++[{ t.1 with line:=q1.line,aX:=q1.aX }])) rfl rfl rfl rfl rfl rfl rfl du (fun v'=>ee) (by first|omega|(simp;done)) ?_);intro A2 m2)|(show F _ _ _;subst hF;refine aI.az fun F hF=>?_)|(show F _ _ _;subst hF)|refine ag aa rfl ?_)
      all_goals (try conv=>whnf)
      have sj:=sj rfl;have KM:q2.i=q1.i+t.1.text.length:=by rw[sj,Pt.u9,List.length_take,Nat.min_eq_left IM]
      exact ⟨⟨q2,([]:List Tk)++[{ t.1 with line:=q1.line,aX:=q1.aX }],.slice (some A2) (([]:List Tk).length+1) m2⟩,[0,1,2],⟨⟨by show q2.i<=_;omega,by show q2.low;rw[sj];exact Pt.oV _ xg,by show jW (s.drop q2.i) q2 _=TT;rw[hT,KM,<-List.drop_drop,<-hm,sj],.inr ⟨A2,m2,by simp⟩,by show (([]:List Tk)++[_]).length<=q2.i;simp only[List.length_append,List.length_cons,List.length_nil] at h5 ⊢;omega⟩,by show s.length - q2.i<s.length - q.i;omega⟩,rfl,⟨rr,rr,rr,rr,tU⟩,⟨⟨_,rfl,kp⟩,⟨_,rfl,rfl⟩,⟨_,rfl,rfl⟩,tU⟩⟩
     ·refine aI.az fun F hF=>?_;repeat' ((conv=>whnf);first|with_reducible apply af<;>intro _|refine aM.drawn aa rfl rfl ?_|with_reducible refine And.intro (aN.mk ⟨_,rfl,rfl⟩) ?_|refine hs.g [2] rfl rfl ⟨⟨_,rfl,rfl⟩,tU⟩ fun G=>?_|refine hp.g [2] rfl rfl ⟨⟨_,rfl,rfl⟩,tU⟩ fun G=>?_|(exfalso;rename_i hx;exact hend (Int.ofNat.inj (eq_of_beq hx)))|(refine hn.use [2] rfl rfl ⟨⟨_,rfl,rfl⟩,tU⟩ ?_;rintro _ _ ⟨rfl,q2,G,sj,rfl⟩;refine ⟨[],?_⟩)|(refine al.om (eH.iw aa Au uc (by decide) xX (i:=0) (y:={ t.1 with line:=q1.line,aX:=q1.aX }) (l:=out) (v:=.slice (some A0) out.length c0) (R1:=aB) (R':=fun v'=>aA pn 5 o8 v' (out++[{ t.1 with line:=q1.line,aX:=q1.aX }])) rfl rfl rfl rfl rfl rfl rfl du (fun v'=>ee) (by first|omega|(simp;done)) ?_);intro A2 m2)|(show F _ _ _;subst hF;refine aI.az fun F hF=>?_)|(show F _ _ _;subst hF)|refine ag aa rfl ?_)
      all_goals (try conv=>whnf)
      have sj:=sj rfl;have KM:q2.i=q1.i+t.1.text.length:=by rw[sj,Pt.u9,List.length_take,Nat.min_eq_left IM]
      exact ⟨⟨q2,out++[{ t.1 with line:=q1.line,aX:=q1.aX }],.slice (some A2) (out.length+1) m2⟩,[0,1,2],⟨⟨by show q2.i<=_;omega,by show q2.low;rw[sj];exact Pt.oV _ xg,by show jW (s.drop q2.i) q2 _=TT;rw[hT,KM,<-List.drop_drop,<-hm,sj],.inr ⟨A2,m2,by simp⟩,by show (out++[_]).length<=q2.i;simp only[List.length_append,List.length_cons,List.length_nil] at h5 ⊢;omega⟩,by show s.length - q2.i<s.length - q.i;omega⟩,rfl,⟨rr,rr,rr,rr,tU⟩,⟨⟨_,rfl,kp⟩,⟨_,rfl,rfl⟩,⟨_,rfl,rfl⟩,tU⟩⟩
    ·have hT:=Db l m q out (by rw[hm,hd]) aP he;rw[h3,<-yw] at hT;subst hT;obtain ⟨t,ht⟩:∃t,t=cH m:=⟨_,rfl⟩;rw[<-ht] at hn he ⊢;clear hd P5 yw ht;refine aI.az fun F hF=>?_;repeat' ((conv=>whnf);first|with_reducible apply af<;>intro _|refine aM.drawn aa rfl rfl ?_|with_reducible refine And.intro (aN.mk ⟨_,rfl,rfl⟩) ?_|refine hs.g [2] rfl rfl ⟨⟨_,rfl,rfl⟩,tU⟩ fun G=>?_|refine hp.g [2] rfl rfl ⟨⟨_,rfl,rfl⟩,tU⟩ fun G=>?_|(exfalso;rename_i hx;exact hend (Int.ofNat.inj (eq_of_beq hx)))|(refine hn.use [2] rfl rfl ⟨⟨_,rfl,rfl⟩,tU⟩ ?_;rintro _ _ ⟨rfl,q2,G,sj,rfl⟩;refine ⟨[],?_⟩)|(show F _ _ _;subst hF;refine aI.az fun F hF=>?_)|(show F _ _ _;subst hF)|refine ag aa rfl ?_)
     all_goals (try conv=>whnf)
     all_goals first
      | (exfalso;rename_i hx;have:=hx;simp at this;exact he this)
      | exact ⟨none,0,_,⟨iu.nil,fun _ _ _=>Nat.zero_le _⟩,rfl,_,rfl⟩
open Ev
theorem EY{s:List UInt8}{S:List Nat}{H:List ai}{K:AV->List ai->Prop}(k:K (bA (ju s)) H):CP S 408 [.lit (dw s)] H K:=by
 refine aj.pure ?_ (fun _=>rfl) (fun _=>rfl) k;by_cases h0:s=[]
 ·have hb:ju s=false:=by rw[h0];rfl
  have hE:((⟨s.toArray⟩:ByteArray).toList==(⟨#[]⟩:ByteArray).toList)=true:=o9.trans (decide_eq_true h0);rw[hb];clear h0 hb k;refine ag aa rfl ?_;repeat' ((conv=>whnf);first|rw[hE]|with_reducible apply af<;>intro _)
  all_goals (try conv=>whnf)
  all_goals rfl
 ·have h0:0<s.length:=List.length_pos_iff.2 h0;have hE:((⟨s.toArray⟩:ByteArray).toList==(⟨#[]⟩:ByteArray).toList)=false:=o9.trans (decide_eq_false (fun h=>by rw[h] at h0;simp at h0));have hh:s.headD 0=s[0]:=by
   cases s with
   | nil=>simp at h0
   | cons c r=>rfl
  obtain ⟨c,hc⟩:∃c,c=s[0]:=⟨_,rfl⟩;obtain ⟨b,hb⟩:∃b,b=ju s:=⟨_,rfl⟩;rw[<-hb];unfold ju at hb;rw[hh,<-hc] at hb;clear hh k;refine ag aa rfl ?_;repeat' ((conv=>whnf);first|rw[hE]|with_reducible apply af<;>intro _|(refine al.eU (k:=0) rfl rfl rfl rfl rfl h0 ?_;rw[<-hc])|refine Ct c ?_|refine So ?_|(have z5:¬16<s.length:=fun h=>dF1 (by assumption) (Int.ofNat_lt.2 h);refine aV aa rfl (fun k=>[(0,.lit (dw s)),(22,iA s.length),(23,iA (k:Nat))]) (fun _=>[]) (fun k=>k<=s.length/\(s.take k).all dj=true) (fun k=>s.length - k) 0 ⟨Nat.zero_le _,rfl⟩ [] ⟨rfl,⟨rr,rr,rr,tU⟩,tU⟩ ?_;rintro k ⟨hk,Xn⟩;by_cases eQ:k<s.length)|refine al.eU rfl rfl rfl rfl rfl eQ ?_|refine Mx _ ?_)
  all_goals (try conv=>whnf)
  all_goals first
   | exact bT eQ (by assumption)
   | exact cF eQ (by assumption)
   | (rename_i hx;have h1:16<s.length:=Int.ofNat_lt.1 (dT1 hx);exact bc (by rw[hb,decide_eq_false (by omega)];rfl))
   | (refine ⟨k+1,[],⟨⟨eQ,?_⟩,by omega⟩,rfl,⟨rr,rr,⟨rfl,ax rfl (ak (by omega) (by omega))⟩,tU⟩,tU⟩;rw[bq eQ,List.all_append,Xn];simpa using (by assumption:dj s[k]=true))
   | (have h1:s.all dj=false:=List.all_eq_false.2 ⟨_,List.getElem_mem eQ,(by simp[*]:¬dj s[k]=true)⟩;refine bc ?_;rw[hb,h1,Bool.and_false])
   | (clear hc;refine bc ?_;rw[hb];simp[*];done)
   | (clear hc;rw[List.take_of_length_le (by omega)] at Xn;refine bc ?_;rw[hb,Xn,decide_eq_true (show 0<s.length/\s.length<=16 by omega)];simp[*];done)
open Go.RowKit
def rT:Option (Nat×Nat)->Nat×Nat×Nat
 | none=>(0,0,0)
 | some b=>(31,b.1,b.2)
def iy(b:Bx):List Value:=[.int .i64 (b.x0:Int),.int .i64 (b.y0:Int),.int .i64 (b.x1:Int),.int .i64 (b.y1:Int)]
def SR(x:Dc)(v:Value):Array Value:=#[.int .i64 (x.kind:Int),dw x.name,.int .i64 (x.n:Int),v,.bool x.role.any,dw x.role.name,.int .i64 (x.role.n:Int),.int .i64 (x.role.line:Int),.int .i64 (x.role.aX:Int),.int .i64 (x.lo:Int),.int .i64 (x.hi:Int),
 .bool x.label.any,dw x.label.name,.int .i64 (x.label.n:Int),.int .i64 (x.label.line:Int),.int .i64 (x.label.aX:Int),.bool x.wh.any,dw x.wh.name,.int .i64 (x.wh.n:Int),.int .i64 (x.wh.line:Int),.int .i64 (x.wh.aX:Int),.int .i64 (x.bV:Int),.int .i64 (x.line:Int),.int .i64 (x.aX:Int)]
theorem SS(x:Dc)(v:Value)(h:v.oneCell'=true):(SR x v).all (·.oneCell')=true:=by
 unfold Value.oneCell' at h;simp[SR,Value.oneCell',h]
theorem Da:∀(k:Nat) (l:List UInt8) (p:Pt) (out:List Tk),(jv k l p out).1.length<=out.length+l.length
 | 0,l,p,out=>Nat.le_add_right _ _
 | k+1,l,p,out=>by
   unfold jv;simp only;cases e:l.drop (eM l) with
   | nil=>simp
   | cons c r=>
     simp only;split
     ·rename_i hz;obtain ⟨h3,-⟩:=oY c r hz;have h4:(c::r).length<=l.length:=by rw[<-e,List.length_drop];omega
      refine Nat.le_trans (Da k _ _ _) ?_;rw[List.length_append,List.length_drop];simp only[List.length_cons,List.length_nil] at h4 ⊢;omega
     ·simp
theorem Fb(s:List UInt8):(dP s).1.length<=512:=by
 unfold dP;split
 ·simp
 ·have:=Da (s.length+1) s Pt.zero [];simp at this;omega
structure Dv where
 x:Dc
 A:Option Addr
 cap:Nat
def Dv.v(y:Dv):Value:=.slice y.A y.x.boxes.length y.cap
def n9(y:Dv):List Value:=(SR y.x y.v).toList
theorem SX:AO n9 24:=⟨fun _=>rfl,fun y u h=>by
 have h1:=SS y.x y.v rfl;rw[Array.all_eq_true'] at h1;exact h1 u (by unfold n9 at h;simpa using h)⟩
theorem nE(e:Nat×Nat)(k:Nat)(p:Pr)(out:List Dc)(h:p.l=[]\/p.bad≠none):iF e k p out=(out,p):=by
 cases k with
 | zero=>rfl
 | succ k=>unfold iF;rw[if_pos h]
theorem zI(e:Nat×Nat)(k:Nat)(p:Pr)(out:List Dc)(h1:p.l≠[])(h2:p.bad=none):iF e (k+1) p out=iF e k (br e p).2 (out++[(br e p).1]):=by
 conv=>lhs;unfold iF
 rw[if_neg (by simp[h1,h2])]
abbrev tCk:TypeId:=325
abbrev gu:TypeId:=180
abbrev oA:TypeId:=76
abbrev DI(n:Nat):Value:=.int .i64 (n:Int)
theorem fB:po ev 9 dw:=NZ ⟨_,rfl,rfl⟩
theorem hO:p8 ev 321 9 (iA 0):=⟨_,_,_,_,rfl,rfl,rfl,rfl,rfl⟩
theorem gC:p8 ev 323 9 (.lit (.slice none 0 0)):=⟨_,_,_,_,rfl,rfl,rfl,rfl,rfl⟩
theorem nj:iO ev 171 oA 4:=⟨⟨_,rfl,rfl⟩,_,_,rfl,rfl,rfl,rfl,by decide⟩
theorem uf:iO ev 89 gu 7:=⟨⟨_,rfl,rfl⟩,_,_,rfl,rfl,rfl,rfl,by decide⟩
theorem qb(b:Bx):(iy b).length=4:=rfl
structure mg where
 n:List UInt8
 v:Value
 l:List Bx
structure dc where
 x:Rl
 A:Option Addr
 m:Nat
def dc.v(y:dc):Value:=.slice y.A y.x.boxes.length y.m
def fg(y:dc):List Value:=[DI y.x.kind,DI y.x.kJ,DI y.x.lo,DI y.x.hi,DI y.x.labels,y.v,DI y.x.bV]
theorem nG(y:dc):(fg y).length=7:=rfl
def aF(pl:List (Value×List Bx)):aC:=aC.star (pl.map fun p=>AR iy p.1 p.2)
theorem Cv{pl:List (Value×List Bx)}{p:Value×List Bx}(hp:p∈pl)(w:World)(S:Nat->Prop)(h:(aF pl).at_ w S):∃oa m,p.1=.slice oa p.2.length m/\(p.2≠[]->∃b off,oa=some ⟨b,off,none⟩/\ir w b off (p.2.flatMap iy)):=by
 obtain ⟨i,hi⟩:=List.getElem?_of_mem hp;obtain ⟨S1,S2,h1,_⟩:=db (i:=i) (r:=AR iy p.1 p.2) h (by rw[List.getElem?_map,hi];rfl);exact AR.sl h1
theorem rB{pl:List (Value×List Bx)}{v:Value}{l:List Bx}(w:World)(S1 S2:Nat->Prop)(h1:(aF pl).at_ w S1)(h2:(AR iy v l).at_ w S2)(hd:∀b,S1 b->S2 b->False):(aF (pl++[(v,l)])).at_ w (fun b=>S1 b\/S2 b):=by
 show bD ((pl++[(v,l)]).map fun p=>AR iy p.1 p.2) w _
 rw[List.map_append];exact dK.2 ⟨S1,S2,h1,⟨S2,fun _=>False,h2,fun _ h=>h,fun _ _ h=>h,fun b=>by simp⟩,hd,fun b=>Iff.rfl⟩
def uV(c:Ck)(b:Int)(gs:List mg)(pl:List (Value×List Bx))(rv:Value)(rs:List dc):List ai:=
 [.cells [.map 1,.map 4,.lit rv,iA b,iA c.fault.err,iA c.fault.line,iA c.fault.aX] tCk,.map [(iA 1,.map 2,0),(iA 2,.map 3,1)] 2,.bE (mE dw DI c.kJ),.bE (mE dw DI c.labels),.bE (mE dw id (gs.map fun g=>(g.n,g.v))),.res (aF pl),.res (aA fg 7 gu rv rs)]
def pO(c:Ck)(gs:List mg)(pl:List (Value×List Bx))(rv:Value)(rs:List dc):List ai:=uV c c.boxes gs pl rv rs
def wA(x:gw):List AV:=[bA x.any,.lit (dw x.name),iA x.n,iA x.line,iA x.aX]
theorem HE{c:Ck}{b:Int}{gs:List mg}{pl:List (Value×List Bx)}{rv:Value}{rs:List dc}{e l k:Nat} :
  CP [] 416 [.ptr 0 0,iA e,.agg [iA l,iA k]] (uV c b gs pl rv rs) (fun v H'=>v=aQ/\∃G,H'=uV (c.ba e l k) b gs pl rv rs++G):=by
 refine ag aa rfl ?_;repeat' ((conv=>whnf);with_reducible apply af<;>intro _)
 all_goals (try conv=>whnf)
 all_goals
  rename_i h
  unfold Ck.ba
  simp only[beq_iff_eq,beq_eq_false_iff_ne,Int.natCast_eq_zero] at h
 ·rw[if_pos (by omega)];exact ⟨rfl,_,rfl⟩
 ·rw[if_neg (by omega)];exact ⟨rfl,_,rfl⟩
theorem gi{c:Ck}{e l k:Nat}:(c.ba e l k).boxes=c.boxes:=by unfold Ck.ba;split<;>rfl
theorem gj{c:Ck}{gs:List mg}{pl:List (Value×List Bx)}{rv:Value}{rs:List dc}{e l k:Nat} :
  CP [] 416 [.ptr 0 0,iA e,.agg [iA l,iA k]] (pO c gs pl rv rs) (fun v H'=>v=aQ/\∃G,H'=pO (c.ba e l k) gs pl rv rs++G):=by
 unfold pO;rw[gi];exact HE
theorem lx{l:List (List UInt8×Nat)}{k:List UInt8}:dy k l=assoc l k:=by
 unfold dy assoc;have:∀(l:List (List UInt8×Nat)) (i:Nat),(jr k l i).map (·.2)=(l.find? (fun x=>decide (x.1=k))).map (·.2):=by
  intro l;induction l with
  | nil=>intro i;rfl
  | cons p l ih=>
    intro i;unfold jr;by_cases h:k=p.1
    ·rw[if_pos h,List.find?_cons_of_pos (by simp[h])];rfl
    ·rw[if_neg h,List.find?_cons_of_neg (by simp[Ne.symm h])];exact ih _
 exact this l 0
theorem MV{a:Nat}(h:a<=7):IntKind.i64.wrap (1 * 2 ^ min (a:Int).toNat IntKind.i64.bits)=((2 ^ a:Nat):Int):=by
 rw[VO (l:=(a:Int)) (by omega)];unfold p2;simp
theorem Bj{k:Nat}{x:gw}{c:Ck}(h:x.any=true):di k x c=(255,c):=by unfold di;rw[if_pos h]
theorem D1{k a:Nat}{x:gw}{c:Ck}{l:List (List UInt8×Nat)}(hl:c.names k=l)(h:x.any=false)(hn:(!(⟨x.name.toArray⟩:ByteArray).toList==(⟨#[]⟩:ByteArray).toList)=true)(ha:dy x.name l=some a)(h7:decide ((a:Int)>7)=true):di k x c=(0,c.ba 33 x.line x.aX):=by
 have hn:x.name≠[]:=by simpa [ByteArray.toList_eq] using hn
 have h7:=dT1 h7;rw[lx] at ha;unfold di;simp only[h,Bool.false_eq_true,if_false,hn,ne_eq,not_false_eq_true,if_true,hl,ha,Option.getD_some,reduceCtorEq,and_false];rw[if_pos (by omega)]
theorem D2{k a:Nat}{x:gw}{c:Ck}{l:List (List UInt8×Nat)}(hl:c.names k=l)(h:x.any=false)(hn:(!(⟨x.name.toArray⟩:ByteArray).toList==(⟨#[]⟩:ByteArray).toList)=true)(ha:dy x.name l=some a)(h7:decide ((a:Int)>7)=false):di k x c=(2 ^ a,c)/\a<=7:=by
 have hn:x.name≠[]:=by simpa [ByteArray.toList_eq] using hn
 have h7:=dF1 h7;rw[lx] at ha;unfold di;simp only[h,Bool.false_eq_true,if_false,hn,ne_eq,not_false_eq_true,if_true,hl,ha,Option.getD_some,reduceCtorEq,and_false];rw[if_neg (by omega)];exact ⟨rfl,by omega⟩
theorem D3{k:Nat}{x:gw}{c:Ck}{l:List (List UInt8×Nat)}(hl:c.names k=l)(h:x.any=false)(hn:(!(⟨x.name.toArray⟩:ByteArray).toList==(⟨#[]⟩:ByteArray).toList)=true)(ha:dy x.name l=none):di k x c=(1,c.ba 21 x.line x.aX):=by
 have hn:x.name≠[]:=by simpa [ByteArray.toList_eq] using hn
 rw[lx] at ha;unfold di;simp[h,hn,hl,ha]
theorem Bk{k:Nat}{x:gw}{c:Ck}(h:x.any=false)(hn:(!(⟨x.name.toArray⟩:ByteArray).toList==(⟨#[]⟩:ByteArray).toList)=false)(h7:decide ((x.n:Int)>7)=true):di k x c=(0,c.ba 33 x.line x.aX):=by
 have hn:x.name=[]:=by simpa [ByteArray.toList_eq] using hn
 have h7:=dT1 h7;unfold di;simp only[h,Bool.false_eq_true,if_false,hn,ne_eq,not_true_eq_false,false_and];rw[if_pos (by omega)]
theorem Bl{k:Nat}{x:gw}{c:Ck}(h:x.any=false)(hn:(!(⟨x.name.toArray⟩:ByteArray).toList==(⟨#[]⟩:ByteArray).toList)=false)(h7:decide ((x.n:Int)>7)=false):di k x c=(2 ^ x.n,c)/\x.n<=7:=by
 have hn:x.name=[]:=by simpa [ByteArray.toList_eq] using hn
 have h7:=dF1 h7;unfold di;simp only[h,Bool.false_eq_true,if_false,hn,ne_eq,not_true_eq_false,false_and];rw[if_neg (by omega)];exact ⟨rfl,by omega⟩
theorem Wl{c:Ck}{gs:List mg}{pl:List (Value×List Bx)}{rv:Value}{rs:List dc}{k:Nat}{x:gw}(hk:k=1\/k=2) :
  CP [] 417 [.ptr 0 0,iA k,.agg (wA x)] (pO c gs pl rv rs) (fun v H'=>v=iA (di k x c).1/\∃G,H'=pO (di k x c).2 gs pl rv rs++G):=by
 rcases hk with rfl|rfl
 ·refine ag aa rfl ?_;repeat' ((conv=>whnf);first|with_reducible apply af<;>intro _|refine aM.drawn aa rfl rfl ?_|with_reducible refine And.intro (aN.mk ⟨_,rfl,rfl⟩) ?_|refine al.lY _ hO fB rfl rfl rfl rfl (fun a ha=>?_) (fun ha=>?_)|refine And.intro (aN.look _ hO fB rfl rfl rfl rfl rfl (by assumption) rfl rfl) ?_|(refine (gj (c:=c) (gs:=gs) (pl:=pl) (rv:=rv) (rs:=rs) (e:=33) (l:=x.line) (k:=x.aX)).use [0,1,2,3,4,5,6] rfl rfl ⟨⟨_,rfl,rfl⟩,⟨_,rfl,rfl⟩,⟨_,rfl,rfl⟩,⟨_,rfl,rfl⟩,⟨_,rfl,rfl⟩,ko,ko,tU⟩ ?_;rintro _ _ ⟨rfl,G,rfl⟩;refine ⟨[],?_⟩)|(refine (gj (c:=c) (gs:=gs) (pl:=pl) (rv:=rv) (rs:=rs) (e:=21) (l:=x.line) (k:=x.aX)).use [0,1,2,3,4,5,6] rfl rfl ⟨⟨_,rfl,rfl⟩,⟨_,rfl,rfl⟩,⟨_,rfl,rfl⟩,⟨_,rfl,rfl⟩,⟨_,rfl,rfl⟩,ko,ko,tU⟩ ?_;rintro _ _ ⟨rfl,G,rfl⟩;refine ⟨[],?_⟩)|(refine (gj (c:=(c.ba 21 x.line x.aX)) (gs:=gs) (pl:=pl) (rv:=rv) (rs:=rs) (e:=33) (l:=x.line) (k:=x.aX)).use [0,1,2,3,4,5,6] rfl rfl ⟨⟨_,rfl,rfl⟩,⟨_,rfl,rfl⟩,⟨_,rfl,rfl⟩,⟨_,rfl,rfl⟩,⟨_,rfl,rfl⟩,ko,ko,tU⟩ ?_;rintro _ _ ⟨rfl,G,rfl⟩;refine ⟨[],?_⟩)|refine al.shl rfl rfl (by omega) ?_)
  all_goals (try conv=>whnf)
  ·rw[Bj (by assumption)];exact ⟨rfl,_,rfl⟩
  ·rename_i h1 h2 h3;rw[D1 (k:=1) (c:=c) rfl h1 h2 ha h3];exact ⟨rfl,_,rfl⟩
  ·rename_i h1 h2 h3;obtain ⟨e1,e2⟩:=D2 (k:=1) (c:=c) rfl h1 h2 ha h3;rw[e1,MV e2];exact ⟨rfl,_,rfl⟩
  ·rename_i h1 h2;rw[D3 (k:=1) (c:=c) rfl h1 h2 ha];exact ⟨congrArg iA (show IntKind.i64.wrap (1 * 2 ^ min (Int.toNat 0) IntKind.i64.bits)=((1:Nat):Int) by decide),_,rfl⟩
  ·rename_i h1 h2 h3;rw[Bk h1 h2 h3];exact ⟨rfl,_,rfl⟩
  ·rename_i h1 h2 h3;obtain ⟨e1,e2⟩:=Bl (k:=1) h1 h2 h3;rw[e1,MV e2];exact ⟨rfl,_,rfl⟩
 ·refine ag aa rfl ?_;repeat' ((conv=>whnf);first|with_reducible apply af<;>intro _|refine aM.drawn aa rfl rfl ?_|with_reducible refine And.intro (aN.mk ⟨_,rfl,rfl⟩) ?_|refine al.lY _ hO fB rfl rfl rfl rfl (fun a ha=>?_) (fun ha=>?_)|refine And.intro (aN.look _ hO fB rfl rfl rfl rfl rfl (by assumption) rfl rfl) ?_|(refine (gj (c:=c) (gs:=gs) (pl:=pl) (rv:=rv) (rs:=rs) (e:=33) (l:=x.line) (k:=x.aX)).use [0,1,2,3,4,5,6] rfl rfl ⟨⟨_,rfl,rfl⟩,⟨_,rfl,rfl⟩,⟨_,rfl,rfl⟩,⟨_,rfl,rfl⟩,⟨_,rfl,rfl⟩,ko,ko,tU⟩ ?_;rintro _ _ ⟨rfl,G,rfl⟩;refine ⟨[],?_⟩)|(refine (gj (c:=c) (gs:=gs) (pl:=pl) (rv:=rv) (rs:=rs) (e:=21) (l:=x.line) (k:=x.aX)).use [0,1,2,3,4,5,6] rfl rfl ⟨⟨_,rfl,rfl⟩,⟨_,rfl,rfl⟩,⟨_,rfl,rfl⟩,⟨_,rfl,rfl⟩,⟨_,rfl,rfl⟩,ko,ko,tU⟩ ?_;rintro _ _ ⟨rfl,G,rfl⟩;refine ⟨[],?_⟩)|(refine (gj (c:=(c.ba 21 x.line x.aX)) (gs:=gs) (pl:=pl) (rv:=rv) (rs:=rs) (e:=33) (l:=x.line) (k:=x.aX)).use [0,1,2,3,4,5,6] rfl rfl ⟨⟨_,rfl,rfl⟩,⟨_,rfl,rfl⟩,⟨_,rfl,rfl⟩,⟨_,rfl,rfl⟩,⟨_,rfl,rfl⟩,ko,ko,tU⟩ ?_;rintro _ _ ⟨rfl,G,rfl⟩;refine ⟨[],?_⟩)|refine al.shl rfl rfl (by omega) ?_)
  all_goals (try conv=>whnf)
  ·rw[Bj (by assumption)];exact ⟨rfl,_,rfl⟩
  ·rename_i h1 h2 h3;rw[D1 (k:=2) (c:=c) rfl h1 h2 ha h3];exact ⟨rfl,_,rfl⟩
  ·rename_i h1 h2 h3;obtain ⟨e1,e2⟩:=D2 (k:=2) (c:=c) rfl h1 h2 ha h3;rw[e1,MV e2];exact ⟨rfl,_,rfl⟩
  ·rename_i h1 h2;rw[D3 (k:=2) (c:=c) rfl h1 h2 ha];exact ⟨congrArg iA (show IntKind.i64.wrap (1 * 2 ^ min (Int.toNat 0) IntKind.i64.bits)=((1:Nat):Int) by decide),_,rfl⟩
  ·rename_i h1 h2 h3;rw[Bk h1 h2 h3];exact ⟨rfl,_,rfl⟩
  ·rename_i h1 h2 h3;obtain ⟨e1,e2⟩:=Bl (k:=2) h1 h2 h3;rw[e1,MV e2];exact ⟨rfl,_,rfl⟩
structure AM(c:Ck)(gs:List mg)(pl:List (Value×List Bx)):Prop where
 Jk:c.regions=gs.map fun g=>(g.n,g.l)
 PH:∀g∈gs,(g.v,g.l)∈pl/\g.l≠[]/\g.l.length<=1000000/\∃a m,g.v=.slice (some a) g.l.length m
theorem EI{gs:List mg}{k:List UInt8}:∀i,(jr k (gs.map fun g=>(g.n,g.v)) i).map (·.2)=(gs.find? fun g=>decide (k=g.n)).map (·.v):=by
 induction gs with
 | nil=>intro i;rfl
 | cons g gs ih=>
   intro i;simp only[List.map_cons,jr];by_cases h:k=g.n
   ·rw[if_pos h,List.find?_cons_of_pos (by simp[h])];rfl
   ·rw[if_neg h,List.find?_cons_of_neg (by simp[h])];exact ih _
theorem vQ{gs:List mg}{k:List UInt8}:assoc (gs.map fun g=>(g.n,g.l)) k=(gs.find? fun g=>decide (k=g.n)).map (·.l):=by
 unfold assoc;induction gs with
 | nil=>rfl
 | cons g gs ih=>
   simp only[List.map_cons];by_cases h:k=g.n
   ·rw[List.find?_cons_of_pos (by simp[h]),List.find?_cons_of_pos (by simp[h])];rfl
   ·rw[List.find?_cons_of_neg (by simp[Ne.symm h]),List.find?_cons_of_neg (by simp[h])];exact ih
theorem EK{c:Ck}{gs:List mg}{pl:List (Value×List Bx)}(h:AM c gs pl){k:List UInt8}{v:Value}(ha:dy k (gs.map fun g=>(g.n,g.v))=some v):∃l a m,v=.slice (some a) l.length m/\(v,l)∈pl/\l≠[]/\l.length<=1000000/\assoc c.regions k=some l:=by
 unfold dy at ha;rw[EI] at ha;rw[h.Jk,vQ];cases hf:gs.find? fun g=>decide (k=g.n) with
 | none=>rw[hf] at ha;cases ha
 | some g=>
   rw[hf] at ha;have hv:g.v=v:=Option.some.inj ha;obtain ⟨h1,h2,h3,a,m,h4⟩:=h.PH g (List.mem_of_find?_eq_some hf);exact ⟨g.l,a,m,by rw[<-hv,h4],by rw[<-hv];exact h1,h2,h3,rfl⟩
theorem EJ{c:Ck}{gs:List mg}{pl:List (Value×List Bx)}(h:AM c gs pl){k:List UInt8}(ha:dy k (gs.map fun g=>(g.n,g.v))=none):assoc c.regions k=none:=by
 unfold dy at ha;rw[EI] at ha;rw[h.Jk,vQ];cases hf:gs.find? fun g=>decide (k=g.n) with
 | none=>rfl
 | some g=>rw[hf] at ha;cases ha
theorem xz{pl:List (Value×List Bx)}{A:Option Addr}{l:List Bx}{m:Nat}(hp:(.slice A l.length m,l)∈pl)(aP:l≠[])(w:World)(S:Nat->Prop)(h:(aF pl).at_ w S):∃b off,A=some ⟨b,off,none⟩/\ir w b off (l.flatMap iy):=by
 obtain ⟨oa,m',e,h2⟩:=Cv hp w S h;injection e with e1;subst e1;exact h2 aP
theorem Fs:∀(a:Bx),∀u∈iy a,u.oneCell'=true:=fun a u hu=>by
 simp only[iy,List.mem_cons,List.not_mem_nil,or_false] at hu;rcases hu with rfl|rfl|rfl|rfl<;>rfl
def BxV(v:Value)(l:List Bx):Prop:=(v=aD/\l=[])\/(l≠[]/\∃a m,v=.slice (some a) l.length m)
def wG(c:Ck)(gs:List mg)(pl:List (Value×List Bx))(rv:Value)(rs:List dc)(x:gw)(v:AV)(H':List ai):Prop:=
 ∃V eY,v=.lit V/\BxV V (cZ x c).1/\(∀p∈pl,p∈eY)/\((cZ x c).1≠[]->(V,(cZ x c).1)∈eY)/\∃G,H'=pO (cZ x c).2 gs eY rv rs++G
theorem Dr{c:Ck}{gs:List mg}{pl:List (Value×List Bx)}{rv:Value}{rs:List dc}{x:gw}(hg:AM c gs pl)(hx:x.any=false) :
  CP [] 418 [.ptr 0 0,.agg (wA x)] (pO c gs pl rv rs) (wG c gs pl rv rs x):=by
 have hw:cZ x c=match assoc c.regions x.name with
  | some l=>(l,c)
  | none=>([],c.ba 21 x.line x.aX):=by unfold cZ;rw[if_neg (by simp[hx])];rfl
 unfold wA;rw[hx];unfold wG;rw[hw];cases ha:dy x.name (gs.map fun g=>(g.n,g.v)) with
 | some V=>
   obtain ⟨l,a,m,rfl,iX,aP,oS,has⟩:=EK hg ha;rw[has];simp only[]
   ·refine ag aa rfl ?_;repeat' ((conv=>whnf);first|with_reducible apply af<;>intro _|refine aM.drawn aa rfl rfl ?_|with_reducible refine And.intro (aN.mk ⟨_,rfl,rfl⟩) ?_|refine al.lY _ gC fB rfl rfl rfl rfl (fun b hb=>?_) (fun hb=>by rw[ha] at hb;cases hb)|refine And.intro (aN.look _ gC fB rfl rfl rfl rfl rfl (by assumption) rfl rfl) ?_|(obtain rfl:b=.slice (some a) l.length m:=by rw[ha] at hb;exact (Option.some.inj hb).symm)|(refine al.om (eH.LV aa nj qb (by decide) Fs (i:=5) (j:=5) (l:=l) (R':=fun v'=>aF (pl++[(v',l)])) rfl rfl rfl aP rfl rfl (fun w S h=>?_) (fun v' w S1 S2 h1 h2 hd=>rB w S1 S2 h1 h2 hd) (by omega) ?_)))
    ·exact xz iX aP w S h
    ·intro A n;repeat' ((conv=>whnf);first|with_reducible apply af<;>intro _|refine aM.drawn aa rfl rfl ?_|with_reducible refine And.intro (aN.mk ⟨_,rfl,rfl⟩) ?_ )
     exact ⟨.slice (some A) l.length n,pl++[(.slice (some A) l.length n,l)],rfl,.inr ⟨aP,_,_,rfl⟩,fun p hp=>by simp[hp],fun _=>by simp,_,rfl⟩
 | none=>
   rw[EJ hg ha];simp only[]
   ·refine ag aa rfl ?_;repeat' ((conv=>whnf);first|with_reducible apply af<;>intro _|refine aM.drawn aa rfl rfl ?_|with_reducible refine And.intro (aN.mk ⟨_,rfl,rfl⟩) ?_|refine al.lY _ gC fB rfl rfl rfl rfl (fun b hb=>by rw[ha] at hb;cases hb) (fun hb=>?_)|refine And.intro (aN.look _ gC fB rfl rfl rfl rfl rfl (by assumption) rfl rfl) ?_|refine dx.zero nj rfl ?_|(refine (gj (c:=c) (gs:=gs) (pl:=pl) (rv:=rv) (rs:=rs) (e:=21) (l:=x.line) (k:=x.aX)).use [0,1,2,3,4,5,6] rfl rfl ⟨⟨_,rfl,rfl⟩,⟨_,rfl,rfl⟩,⟨_,rfl,rfl⟩,⟨_,rfl,rfl⟩,⟨_,rfl,rfl⟩,ko,ko,tU⟩ ?_;rintro _ _ ⟨rfl,G,rfl⟩;refine ⟨[],?_⟩))
    all_goals (try conv=>whnf)
    exact ⟨aD,pl,rfl,.inl ⟨rfl,rfl⟩,fun p hp=>hp,fun h=>absurd rfl h,_,rfl⟩
theorem vH{pl:List (Value×List Bx)}{b off m:Nat}{l:List Bx}(aP:l≠[])(w:World)(S1 S2:Nat->Prop)(h1:(aF pl).at_ w S1)(h2:(iP ⟨b,off,none⟩ (l.flatMap iy)).at_ w S2)(hd:∀b,S1 b->S2 b->False):(aF (pl++[(.slice (some ⟨b,off,none⟩) l.length m,l)])).at_ w (fun b=>S1 b\/S2 b):=
 rB w S1 S2 h1 (.inr ⟨⟨b,off,none⟩,m,rfl,rfl,aP,h2⟩) hd
theorem Fw{c:Ck}{gs:List mg}{pl:List (Value×List Bx)}{rv:Value}{rs:List dc}{x:gw}(hx:x.any=true) :
  CP [] 418 [.ptr 0 0,.agg (wA x)] (pO c gs pl rv rs) (wG c gs pl rv rs x):=by
 have hw:cZ x c=([⟨0,0,65535,65535⟩],c):=by unfold cZ;rw[if_pos hx]
 unfold wA;rw[hx];unfold wG;rw[hw];refine aj.post (K:=fun v H'=>∃b off m G G2,v=.lit (.slice (some ⟨b,off,none⟩) 1 m)/\H'=pO c gs pl rv rs++[G,G2,.res (iP ⟨b,off,none⟩ ([(⟨0,0,65535,65535⟩:Bx)].flatMap iy))]) (aj.VI (K':=fun v H'=>v=.slice 9 0 1 (.k 1)/\∃G G2,H'=pO c gs pl rv rs++[G,G2,.cells [iA 0,iA 0,iA 65535,iA 65535] oA]) ?_ ?_) ?_
 ··refine ag aa rfl ?_;repeat' ((conv=>whnf);first|with_reducible apply af<;>intro _|refine ag aa rfl ?_)
   all_goals (try conv=>whnf)
   exact ⟨rfl,_,_,rfl⟩
 ·rintro _ _ ⟨rfl,G,G2,rfl⟩;refine .inr ⟨9,1,.k 1,[(⟨0,0,65535,65535⟩:Bx)].flatMap iy,oA,rfl,by omega,.inr rfl,fun b off m=>⟨b,off,m,G,G2,rfl,rfl⟩⟩
 ·rintro _ _ ⟨b,off,m,G,G2,rfl,rfl⟩;refine ⟨pO c gs (pl++[(.slice (some ⟨b,off,none⟩) 1 m,[⟨0,0,65535,65535⟩])]) rv rs++[G,G2,.res aB],eg.same rfl ?_,.slice (some ⟨b,off,none⟩) 1 m,_,rfl,.inr ⟨by simp,_,_,rfl⟩,fun p hp=>by simp[hp],fun _=>by simp,_,rfl⟩;exact (bj.merge (i:=5) (j:=9) rfl rfl rfl (vH (by simp))).trans (.of_eq rfl)
theorem Pm{c:Ck}{gs:List mg}{pl:List (Value×List Bx)}{rv:Value}{rs:List dc}{x:gw}(hg:AM c gs pl) :
  CP [] 418 [.ptr 0 0,.agg (wA x)] (pO c gs pl rv rs) (wG c gs pl rv rs x):=by
 cases hx:x.any with
 | true=>exact Fw hx
 | false=>exact Dr hg hx
theorem tI(p:Pr):p.on.l.length<=p.l.length:=by unfold Pr.on;simp
theorem uL(e:Nat×Nat)(p:Pr):(p.ba e).l=p.l:=by
 unfold Pr.ba;split<;>rfl
theorem gX(e:Nat×Nat)(s:List UInt8)(p:Pr):(p.want e s).l.length<=p.l.length:=by
 unfold Pr.want;split
 ·exact tI p
 ·rw[uL];exact Nat.le_refl _
theorem JW(e:Nat×Nat)(k:Nat)(p:Pr):(p.take e k).2.l.length<=p.l.length:=by
 unfold Pr.take;split
 ·exact tI p
 ·simp only[uL];exact Nat.le_refl _
theorem tG(e:Nat×Nat)(p:Pr):(gN e p).2.l.length<=p.l.length:=JW e 1 p
theorem lb(e:Nat×Nat)(p:Pr):(fW e p).2.l.length<=p.l.length:=JW e 3 p
theorem Na(e:Nat×Nat)(p:Pr):(iT e p).2.l.length<=p.l.length:=by
 unfold iT;simp only;split
 ·exact tI p
 ·split
  ·exact tG e p
  ·exact lb e p
theorem OO(e:Nat×Nat)(p:Pr):(gJ e p).2.l.length<=p.l.length:=by
 unfold gJ;simp only;split
 ·exact tI p
 ·exact tG e p
theorem OG(e:Nat×Nat)(p:Pr):(gI e p).2.2.l.length<=p.l.length:=by
 unfold gI;simp only;split
 ·exact tI p
 ·split
  ·exact Nat.le_trans (lb e _) (Nat.le_trans (tI _) (lb e p))
  ·exact lb e p
theorem qR(e:Nat×Nat)(p:Pr):(hZ e p).2.l.length<=p.l.length:=
 Nat.le_trans (lb e _) (Nat.le_trans (lb e _) (Nat.le_trans (lb e _) (lb e p)))
theorem IX(e:Nat×Nat):∀(k:Nat) (p:Pr) (out:List Bx),(fT e k p out).2.l.length<=p.l.length
 | 0,p,out=>Nat.le_refl _
 | k+1,p,out=>by
   unfold fT;split
   ·exact Nat.le_trans (IX e k _ _) (Nat.le_trans (qR e _) (tI p))
   ·exact Nat.le_refl _
theorem Nl(e:Nat×Nat)(p:Pr):(bF e p).2.l.length<=p.l.length:=Nat.le_trans (IX e _ _ _) (qR e p)
theorem Er(e:Nat×Nat)(d:Dc)(p:Pr):(gf e d p).2.l.length<=p.l.length:=Nat.le_trans (lb e _) (Nat.le_trans (gX e _ _) (tG e p))
theorem Lm(e:Nat×Nat)(d:Dc)(p:Pr):(eT e d p).2.l.length<=p.l.length:=Nat.le_trans (Nl e _) (Nat.le_trans (gX e _ _) (tG e p))
theorem D5(e:Nat×Nat)(d:Dc)(p:Pr):(eS e d p).2.l.length<=p.l.length:=Nat.le_trans (Na e _) (gX e _ p)
theorem Jz(e:Nat×Nat)(d:Dc)(p:Pr):(dJ e d p).2.l.length<=p.l.length:=
 Nat.le_trans (lb e _) (Nat.le_trans (gX e _ _) (Nat.le_trans (OO e _) (Nat.le_trans (gX e _ _) (Nat.le_trans (Na e _) (Nat.le_trans (gX e _ _) (Nat.le_trans (OG e _) (Nat.le_trans (gX e _ _) (D5 e d p))))))))
theorem Av{p:Pr}(h:p.bad≠none)(s:List UInt8):p.is s=false:=by
 unfold Pr.is;cases hb:p.bad with
 | none=>exact absurd hb h
 | some b=>rfl
theorem uh{p:Pr}(h:p.bad≠none)(k:Nat):p.kind k=false:=by
 unfold Pr.kind;cases hb:p.bad with
 | none=>exact absurd hb h
 | some b=>rfl
theorem vc{p:Pr}(h:p.bad≠none)(e:Nat×Nat):p.ba e=p:=by
 unfold Pr.ba;cases hb:p.bad with
 | none=>exact absurd hb h
 | some b=>rfl
theorem qa{p:Pr}(h:p.bad≠none)(e:Nat×Nat)(s:List UInt8):p.want e s=p:=by unfold Pr.want;rw[Av h];exact vc h e
theorem ui{p:Pr}(h:p.bad≠none)(e:Nat×Nat)(k:Nat):(p.take e k).2=p:=by unfold Pr.take;rw[uh h];exact vc h e
theorem Hp{p:Pr}(h:p.bad≠none)(e:Nat×Nat):(iT e p).2=p:=by
 unfold iT;simp only[Av h,uh h,Bool.false_eq_true,if_false];exact ui h e 3
theorem Ke{p:Pr}(h:p.bad≠none)(e:Nat×Nat):(gJ e p).2=p:=by
 unfold gJ;simp only[Av h,Bool.false_eq_true,if_false];exact ui h e 1
theorem Kd{p:Pr}(h:p.bad≠none)(e:Nat×Nat):(gI e p).2.2=p:=by
 have h1:(fW e p).2=p:=ui h e 3;unfold gI;simp only[Av h,Bool.false_eq_true,if_false,h1]
theorem yf{p:Pr}(h:p.bad≠none)(e:Nat×Nat)(d:Dc):(dJ e d p).2=p:=by
 have hc:(eS e d p).2=p:=by unfold eS;simp only[qa h,Hp h]
 unfold dJ;simp only[hc,qa h,Kd h,Hp h,Ke h];exact ui h e 3
theorem je(e:Nat×Nat)(p:Pr):(p.ba e).bad≠none:=by
 unfold Pr.ba;cases hb:p.bad with
 | none=>simp
 | some b=>simp[hb]
theorem yD{p:Pr}{s:List UInt8}(h:p.is s=true):p.on.l.length<p.l.length:=by
 unfold Pr.is at h;unfold Pr.on;cases hl:p.l with
 | nil=>rw[hl] at h;simp at h
 | cons t r=>simp
theorem Br(e:Nat×Nat)(p:Pr):(br e p).2.l.length<p.l.length\/((br e p).2.bad≠none/\(br e p).2.l.length<=p.l.length):=by
 unfold br;simp only;by_cases b0:p.is cd=true
 ·rw[if_pos b0];exact .inl (Nat.lt_of_le_of_lt (Nat.le_trans (gX e _ _) (Er e _ _)) (yD b0))
 rw[if_neg b0];by_cases b1:p.is bU=true
 ·rw[if_pos b1];exact .inl (Nat.lt_of_le_of_lt (Nat.le_trans (gX e _ _) (Er e _ _)) (yD b1))
 rw[if_neg b1];by_cases b2:p.is cC=true
 ·rw[if_pos b2];exact .inl (Nat.lt_of_le_of_lt (Nat.le_trans (gX e _ _) (Lm e _ _)) (yD b2))
 rw[if_neg b2];by_cases b3:p.is dH=true
 ·rw[if_pos b3];exact .inl (Nat.lt_of_le_of_lt (Nat.le_trans (gX e _ _) (Jz e _ _)) (yD b3))
 rw[if_neg b3];by_cases b4:p.is jn=true
 ·rw[if_pos b4];exact .inl (Nat.lt_of_le_of_lt (Nat.le_trans (gX e _ _) (Jz e _ _)) (yD b4))
 rw[if_neg b4];by_cases b5:p.is fi=true
 ·rw[if_pos b5];exact .inl (Nat.lt_of_le_of_lt (Nat.le_trans (gX e _ _) (D5 e _ _)) (yD b5))
 rw[if_neg b5];refine .inr ?_;have h:=je e p;rw[yf h,qa h];exact ⟨h,by rw[uL];exact Nat.le_refl _⟩
