/- Part of the proof: Lx5 Lx6 PolQ Rul PolP2. Conditions: as each states. -/
import Derived.Test.YtmbdghclhpboaaaGreatPw27
set_option linter.all false
set_option maxRecDepth 100000
namespace Go.Proofs.YtmbdghclhpboaaaGreat
open Ev Go.RowKit
theorem gD{α:Type}{enc:α->List Value}{k:Nat}{e:TypeId}{v:Value}{l:List α}(w:World)(S:Nat->Prop)(h:(aB enc k e v l).at_ w S):bw [aB enc k e v l,aA] w S:=
 ⟨S,fun _=>False,h,⟨fun _=>False,fun _=>False,fun _ h=>h,fun _ h=>h,fun _ h _=>h,fun b=>by simp⟩,fun _ _ h=>h,fun b=>by simp⟩
theorem iI{α:Type}{enc:α->List Value}{k:Nat}{e:TypeId}{v:Value}{l:List α}(w:World)(S:Nat->Prop)(h:bw [aB enc k e v l,aA] w S):(aB enc k e v l).at_ w S:=by
 obtain ⟨S1,S2,h1,⟨T1,T2,k1,k2,_,ri⟩,_,hS⟩:=h;refine ⟨h1.1,fun b=>?_⟩;rw[hS b,ri b];have e1:=h1.2 b;have e2:=k1 b;have e3:=k2 b;exact ⟨fun h=>h.elim e1.1 (fun h=>h.elim (fun h=>absurd h e2) (fun h=>absurd h e3)),fun h=>.inl (e1.2 h)⟩
theorem l7{α:Type}{enc:α->List Value}{k:Nat}{e:TypeId}(w:World):(aB enc k e aO ([]:List α)).at_ w fun _=>False:=⟨Own.nil,fun b=>by simp[aO,Value.ownBlock]⟩
theorem j8{α:Type}{enc:α->List Value}{k:Nat}{e:TypeId}{base:Nat}{w0:World}{A:Option Addr}{m:Nat}{l:List α}(h:Own enc k e w0 base (.slice A l.length m) l)(aN:l≠[]):∃b off,A=some ⟨b,off,none⟩/\base<=b/\gZ w0 b off (l.flatMap enc):=by
 have nV:0<l.length:=List.length_pos_iff.2 aN;obtain ⟨A',m',e,_,h2,h3⟩:=h.sl;injection e with e1 e2 e3;subst e1;subst e3;obtain ⟨b,off,rfl,hb,hl⟩:=h3 nV;refine ⟨b,off,rfl,?_,hl⟩;rcases h.2 with ⟨h1,h0⟩|⟨g,cap,cur,h1,hg,_⟩
 ·omega
 ·injection h1 with e1 e2 e3;injection e1 with e1;injection e1 with e1 e2 e3;omega
structure gM(R:aH)(A:Option Addr)(L:List Tk):Prop where
 lay:L≠[]->∃a,A=some a/\∀w S,R.at_ w S->∃b off,a=⟨b,off,none⟩/\gZ w b off (L.flatMap oH)
 len:L.length<=1000000
theorem gM.rd{R:aH}{A:Option Addr}{L:List Tk}(h:gM R A L):eG Tryz.prog R ow 5 A (fun t=>.agg (oH t).toArray) L:=fun aN=>by
 obtain ⟨a,rfl,hy⟩:=h.lay aN;by_cases hx:∃w S,R.at_ w S
 ·obtain ⟨w0,S0,h0⟩:=hx;obtain ⟨b,off,rfl,_⟩:=hy w0 S0 h0;exact eG.lay U sU ⟨_,rfl,rfl,rfl⟩ (fun _=>⟨b,off,rfl,fun w S hw=>by
   obtain ⟨b',KO,e,hl⟩:=hy w S hw;cases e
   exact hl⟩) aN
 ·exact ⟨a,rfl,fun w S hw=>absurd ⟨w,S,hw⟩ hx⟩
theorem gM.nil{R:aH}{A:Option Addr}:gM R A []:=⟨fun h=>absurd rfl h,Nat.zero_le _⟩
theorem gM.one{R:aH}{a:Addr}{L:List Tk}(h:gM R (some a) L){ty i j:Nat}{u:Value}(j7:∃r,ev.ty ty=some r/\bG r.bg=false)(hi:i<L.length)(hu:(oH L[i])[j]?=some u)(w:World)(S:Nat->Prop)(hw:R.at_ w S):(loadVar ty ((a.add (i * 5)).add j)).run Tryz.prog w=.ok u w:=by
 obtain ⟨a',e,hl⟩:=h.rd (by rintro rfl;simp at hi);cases e
 exact kn.jx U hl ⟨_,rfl,rfl⟩ hi j7 hu w S hw
theorem gM.pos{R:aH}{a:Addr}{L:List Tk}(h:gM R (some a) L){i:Nat}(hi:i<L.length)(w:World)(S:Nat->Prop)(hw:R.at_ w S):(loadVar 84 ((a.add (i * 5)).add 3)).run Tryz.prog w=.ok (.agg #[.int .i64 (L[i].line:Int),.int .i64 (L[i].aS:Int)]) w:=by
 obtain ⟨a',e,hl⟩:=h.rd (by rintro rfl;simp at hi);cases e
 exact kn.yw (n2:=2) (cs:=[.int .i64 (L[i].line:Int),.int .i64 (L[i].aS:Int)]) U hl ⟨_,rfl,rfl⟩ hi ⟨_,rfl,rfl,rfl⟩ rfl rfl w S hw
theorem IC{v:Value}{A:Option Addr}{m:Nat}{L:List Tk}(hv:ep v L)(he:v=.slice A L.length m)(hl:L.length<=1000000):gM (aB oH 5 ow v L) A L:=by
 subst he;refine ⟨fun aN=>?_,hl⟩;rcases hv with ⟨h,h2⟩|⟨a,n,h⟩
 ·exact absurd h2 aN
 ·injection h with h1;subst h1;refine ⟨a,rfl,fun w S hw=>?_⟩;obtain ⟨b,off,e,_,hl⟩:=j8 hw.1 aN;exact ⟨b,off,Option.some.inj e,hl⟩
theorem Bi{α:Type}{enc:α->List Value}{k:Nat}{e:TypeId}{A:Option Addr}{m:Nat}{l:List α}{w:World}{S:Nat->Prop}(h:(aB enc k e (.slice A l.length m) l).at_ w S):l.length<=m:=by
 obtain ⟨A',m',e1,hm,_⟩:=h.1.sl;injection e1 with _ _ e3;omega
def pw(f:jK):List AV:=[iA f.err,iA f.line,iA f.aS]
theorem zw:jE ev 165 ow 5:=⟨⟨_,rfl,rfl⟩,_,_,rfl,rfl,rfl,rfl,by decide⟩
theorem w8:∀t:Tk,∀u∈oH t,u.oneCell'=true:=fun t u h=>by
 simp only[oH,List.mem_cons,List.not_mem_nil,or_false] at h;rcases h with rfl|rfl|rfl|rfl|rfl<;>rfl
structure V0 where
 q:Pt
 out:List Tk
 v:Value
def FJ(s:List UInt8):AV->List af->Prop:=fun v H'=>∃A m R,(gM R A (dp s).1/\∀w S,R.at_ w S->(dp s).1.length<=m)/\v=.tuple [.lit (.slice A (dp s).1.length m),.agg (pw (dp s).2)]/\∃G,H'=.res R::G
theorem sO{α:Type}{v:Value}{l:List α}(h:ep v l):∃A m,v=.slice A l.length m:=by
 rcases h with ⟨rfl,rfl⟩|⟨A,n,rfl⟩<;>exact ⟨_,_,rfl⟩
theorem Pc{s:List UInt8}:CP [] 217 [.lit (cU s)] [.res (aB oH 5 ow aO [])] (FJ s):=by
 by_cases hl:512<s.length
 ·have e:dp s=([],⟨2,1,1⟩):=by unfold dp;rw[if_pos hl]
  unfold FJ;rw[e];refine ae U rfl ?_;refine eP.of rfl rfl ?_;refine aF.au fun F hF=>?_;repeat' ((conv=>whnf);first|with_reducible apply aa<;>intro _|refine aJ.drawn U rfl rfl ?_|with_reducible refine And.intro (aG.mk ⟨_,rfl,rfl⟩) ?_|(refine (EX (s:=s)).use [] rfl rfl trivial ?_;rintro _ _ ⟨rfl,G,rfl⟩;refine ⟨[0],?_⟩)|refine (EZ (s:=s) (p:=Pt.zero)).g [2] rfl rfl ⟨⟨_,rfl,rfl⟩,tU⟩ fun G=>?_|(exfalso;rename_i hx;have:=of_decide_eq_false hx;exact this (Int.ofNat_lt.2 hl))|(show F _ _ _;subst hF;refine aF.au fun F hF=>?_)|(show F _ _ _;subst hF)|refine ae U rfl ?_)
  all_goals (try conv=>whnf)
  exact ⟨none,0,_,⟨gM.nil,fun _ _ _=>Nat.zero_le _⟩,rfl,_,rfl⟩
 ·have e:dp s=jr s Pt.zero []:=by unfold dp;rw[if_neg hl];rfl
  unfold FJ;rw[e];obtain ⟨TT,GI⟩:∃TT,TT=jr s Pt.zero []:=⟨_,rfl⟩;rw[<-GI];clear e;refine ae U rfl ?_;refine eP.of rfl rfl ?_;refine aF.au fun F hF=>?_;repeat' ((conv=>whnf);first|with_reducible apply aa<;>intro _|refine aJ.drawn U rfl rfl ?_|with_reducible refine And.intro (aG.mk ⟨_,rfl,rfl⟩) ?_|(refine (EX (s:=s)).use [] rfl rfl trivial ?_;rintro _ _ ⟨rfl,G,rfl⟩;refine ⟨[0],?_⟩)|(exfalso;rename_i hx;have:=of_decide_eq_true hx;exact hl (Int.ofNat_lt.1 this))|(show F _ _ _;subst hF;refine aF.au fun F hF=>?_)|(show F _ _ _;subst hF)|refine ae U rfl ?_)
  refine aW U rfl (fun x:V0=>[(0,.lit (cU s)),(3,.ptr 1 0),(4,.ptr 2 0),(5,.lit x.v)]) (fun x=>[.res (aB oH 5 ow x.v x.out),.cells [iA 0,iA 0,iA 0] 86,oq s x.q])
   (fun x=>x.q.i<=s.length/\x.q.low/\jr (s.drop x.q.i) x.q x.out=TT/\ep x.v x.out/\x.out.length<=x.q.i) (fun x=>s.length - x.q.i) ⟨Pt.zero,[],aO⟩ ⟨Nat.zero_le _,Pt.xH,GI.symm,.inl ⟨rfl,rfl⟩,Nat.le_refl _⟩ [0,1,2] ?_ ?_
  ·exact ⟨rfl,⟨rr,rr,rr,rr,tU⟩,⟨ko,⟨_,rfl,rfl⟩,⟨_,rfl,rfl⟩,tU⟩⟩
  ·rintro ⟨q,out,v⟩ ⟨h1,h2,h3,h4,h5⟩;simp only[] at h1 h2 h3 h4 h5;have hs:=Vo h1 (by omega) h2;obtain ⟨l,kW⟩:∃l,l=s.drop q.i:=⟨_,rfl⟩;have o9:l.length=s.length - q.i:=by rw[kW,List.length_drop]
   have hk:=DQ l;rw[<-kW] at h3 hs;obtain ⟨q1,kY⟩:∃q1,q1=q.ju (l.take (dW l)):=⟨_,rfl⟩;have NZ:q1.i=q.i+dW l:=by rw[kY,Pt.uB,List.length_take,Nat.min_eq_left hk]
   have wv:q1.low:=by rw[kY];exact Pt.n7 _ h2
   have hd:s.drop q1.i=l.drop (dW l):=by rw[NZ,kW,List.drop_drop]
   rw[<-kY] at hs;have hp:=EZ (s:=s) (p:=q1);by_cases hend:q1.i=s.length
   ·have hT:TT=(out,jK.ok):=by rw[<-h3];exact B5 l q out (by rw[<-hd,hend,List.drop_length])
    subst hT;obtain ⟨A,m,rfl⟩:=sO h4;clear hd NZ kY h3;refine aF.au fun F hF=>?_;repeat' ((conv=>whnf);first|with_reducible apply aa<;>intro _|refine aJ.drawn U rfl rfl ?_|with_reducible refine And.intro (aG.mk ⟨_,rfl,rfl⟩) ?_|refine hs.g [2] rfl rfl ⟨⟨_,rfl,rfl⟩,tU⟩ fun G=>?_|refine hp.g [2] rfl rfl ⟨⟨_,rfl,rfl⟩,tU⟩ fun G=>?_|(exfalso;rename_i hx;exact ne_of_beq_false hx (congrArg Int.ofNat hend))|(show F _ _ _;subst hF;refine aF.au fun F hF=>?_)|(show F _ _ _;subst hF)|refine ae U rfl ?_)
    all_goals (try conv=>whnf)
    ·exact ⟨A,m,_,⟨IC h4 rfl (by show out.length<=_;omega),fun _ _ h=>Bi h⟩,rfl,_,rfl⟩
   ·have ah:q1.i<s.length:=by omega
    have hn:=Vm ah (by omega) wv;have aN:s.drop q1.i≠[]:=fun h=>by have:=congrArg List.length h;rw[List.length_drop] at this;simp at this;omega
    unfold D8 at hn;obtain ⟨m,hm⟩:∃m,m=s.drop q1.i:=⟨_,rfl⟩;rw[<-hm] at hn aN;have sc:m.length=s.length - q1.i:=by rw[hm,List.length_drop]
    by_cases he:(b9 m).2=0
    ·have hT:=yW l m q out (by rw[hm,hd]) aN he;rw[h3,<-kY] at hT;obtain ⟨c,r,v8⟩:∃c r,m=c::r:=by
      cases m with
      | nil=>exact absurd rfl aN
      | cons c r=>exact ⟨c,r,rfl⟩
     obtain ⟨Oi,wo⟩:=od c r (by rw[<-v8];exact he);rw[<-v8] at Oi wo;have G9:(b9 m).1.text.length<=m.length:=by
      have:=congrArg List.length wo;rw[List.length_take] at this;omega
     obtain ⟨t,ht⟩:∃t,t=b9 m:=⟨_,rfl⟩;rw[<-ht] at hn he Oi G9 hT;rw[he] at hn;clear hd kY ht v8 wo h3;rcases h4 with ⟨rfl,rfl⟩|⟨A0,c0,rfl⟩
     ·refine aF.au fun F hF=>?_;repeat' ((conv=>whnf);first|with_reducible apply aa<;>intro _|refine aJ.drawn U rfl rfl ?_|with_reducible refine And.intro (aG.mk ⟨_,rfl,rfl⟩) ?_|refine hs.g [2] rfl rfl ⟨⟨_,rfl,rfl⟩,tU⟩ fun G=>?_|refine hp.g [2] rfl rfl ⟨⟨_,rfl,rfl⟩,tU⟩ fun G=>?_|(exfalso;rename_i hx;exact hend (Int.ofNat.inj (eq_of_beq hx)))|(refine hn.use [2] rfl rfl ⟨⟨_,rfl,rfl⟩,tU⟩ ?_;rintro _ _ ⟨rfl,q2,G,nW,rfl⟩;refine ⟨[],?_⟩)|(refine dP.om (eU.k9 U zw sU (by decide) w8 (i:=0) (y:={ t.1 with line:=q1.line,aS:=q1.aS }) (l:=([]:List Tk)) (v:=aO) (R1:=aA) (R':=fun v'=>aB oH 5 ow v' (([]:List Tk)++[{ t.1 with line:=q1.line,aS:=q1.aS }])) rfl rfl rfl rfl rfl rfl rfl gD (fun v'=>iI) (by first|omega|(simp;done)) ?_);intro A2 m2)|(show F _ _ _;subst hF;refine aF.au fun F hF=>?_)|(show F _ _ _;subst hF)|refine ae U rfl ?_)
      all_goals (try conv=>whnf)
      have nW:=nW rfl;have Jo:q2.i=q1.i+t.1.text.length:=by rw[nW,Pt.uB,List.length_take,Nat.min_eq_left G9]
      exact ⟨⟨q2,([]:List Tk)++[{ t.1 with line:=q1.line,aS:=q1.aS }],.slice (some A2) (([]:List Tk).length+1) m2⟩,[0,1,2],⟨⟨by show q2.i<=_;omega,by show q2.low;rw[nW];exact Pt.n7 _ wv,by show jr (s.drop q2.i) q2 _=TT;rw[hT,Jo,<-List.drop_drop,<-hm,nW],.inr ⟨A2,m2,by simp⟩,by show (([]:List Tk)++[_]).length<=q2.i;simp only[List.length_append,List.length_cons,List.length_nil] at h5 ⊢;omega⟩,by show s.length - q2.i<s.length - q.i;omega⟩,rfl,⟨rr,rr,rr,rr,tU⟩,⟨⟨_,rfl,kp⟩,⟨_,rfl,rfl⟩,⟨_,rfl,rfl⟩,tU⟩⟩
     ·refine aF.au fun F hF=>?_;repeat' ((conv=>whnf);first|with_reducible apply aa<;>intro _|refine aJ.drawn U rfl rfl ?_|with_reducible refine And.intro (aG.mk ⟨_,rfl,rfl⟩) ?_|refine hs.g [2] rfl rfl ⟨⟨_,rfl,rfl⟩,tU⟩ fun G=>?_|refine hp.g [2] rfl rfl ⟨⟨_,rfl,rfl⟩,tU⟩ fun G=>?_|(exfalso;rename_i hx;exact hend (Int.ofNat.inj (eq_of_beq hx)))|(refine hn.use [2] rfl rfl ⟨⟨_,rfl,rfl⟩,tU⟩ ?_;rintro _ _ ⟨rfl,q2,G,nW,rfl⟩;refine ⟨[],?_⟩)|(refine ai.om (eU.k9 U zw sU (by decide) w8 (i:=0) (y:={ t.1 with line:=q1.line,aS:=q1.aS }) (l:=out) (v:=.slice (some A0) out.length c0) (R1:=aA) (R':=fun v'=>aB oH 5 ow v' (out++[{ t.1 with line:=q1.line,aS:=q1.aS }])) rfl rfl rfl rfl rfl rfl rfl gD (fun v'=>iI) (by first|omega|(simp;done)) ?_);intro A2 m2)|(show F _ _ _;subst hF;refine aF.au fun F hF=>?_)|(show F _ _ _;subst hF)|refine ae U rfl ?_)
      all_goals (try conv=>whnf)
      have nW:=nW rfl;have Jo:q2.i=q1.i+t.1.text.length:=by rw[nW,Pt.uB,List.length_take,Nat.min_eq_left G9]
      exact ⟨⟨q2,out++[{ t.1 with line:=q1.line,aS:=q1.aS }],.slice (some A2) (out.length+1) m2⟩,[0,1,2],⟨⟨by show q2.i<=_;omega,by show q2.low;rw[nW];exact Pt.n7 _ wv,by show jr (s.drop q2.i) q2 _=TT;rw[hT,Jo,<-List.drop_drop,<-hm,nW],.inr ⟨A2,m2,by simp⟩,by show (out++[_]).length<=q2.i;simp only[List.length_append,List.length_cons,List.length_nil] at h5 ⊢;omega⟩,by show s.length - q2.i<s.length - q.i;omega⟩,rfl,⟨rr,rr,rr,rr,tU⟩,⟨⟨_,rfl,kp⟩,⟨_,rfl,rfl⟩,⟨_,rfl,rfl⟩,tU⟩⟩
    ·have hT:=B4 l m q out (by rw[hm,hd]) aN he;rw[h3,<-kY] at hT;subst hT;obtain ⟨t,ht⟩:∃t,t=b9 m:=⟨_,rfl⟩;rw[<-ht] at hn he ⊢;clear hd NZ kY ht;refine aF.au fun F hF=>?_;repeat' ((conv=>whnf);first|with_reducible apply aa<;>intro _|refine aJ.drawn U rfl rfl ?_|with_reducible refine And.intro (aG.mk ⟨_,rfl,rfl⟩) ?_|refine hs.g [2] rfl rfl ⟨⟨_,rfl,rfl⟩,tU⟩ fun G=>?_|refine hp.g [2] rfl rfl ⟨⟨_,rfl,rfl⟩,tU⟩ fun G=>?_|(exfalso;rename_i hx;exact hend (Int.ofNat.inj (eq_of_beq hx)))|(refine hn.use [2] rfl rfl ⟨⟨_,rfl,rfl⟩,tU⟩ ?_;rintro _ _ ⟨rfl,q2,G,nW,rfl⟩;refine ⟨[],?_⟩)|(show F _ _ _;subst hF;refine aF.au fun F hF=>?_)|(show F _ _ _;subst hF)|refine ae U rfl ?_)
     all_goals (try conv=>whnf)
     all_goals first
      | (exfalso;rename_i hx;have:=hx;simp at this;exact he this)
      | exact ⟨none,0,_,⟨gM.nil,fun _ _ _=>Nat.zero_le _⟩,rfl,_,rfl⟩
end Go.Proofs.YtmbdghclhpboaaaGreat
namespace Go.Proofs.YtmbdghclhpboaaaGreat
open Ev
theorem DR{s:List UInt8}{S:List Nat}{H:List af}{K:AV->List af->Prop}(k:K (bA (iP s)) H):CP S 408 [.lit (cU s)] H K:=by
 refine ag.pure ?_ (fun _=>rfl) (fun _=>rfl) k;by_cases h0:s=[]
 ·have hb:iP s=false:=by rw[h0];rfl
  have hE:((⟨s.toArray⟩:ByteArray).toList==(⟨#[]⟩:ByteArray).toList)=true:=oz.trans (decide_eq_true h0);rw[hb];clear h0 hb k;refine ae U rfl ?_;repeat' ((conv=>whnf);first|rw[hE]|with_reducible apply aa<;>intro _)
  all_goals (try conv=>whnf)
  all_goals rfl
 ·have h0:0<s.length:=List.length_pos_iff.2 h0;have hE:((⟨s.toArray⟩:ByteArray).toList==(⟨#[]⟩:ByteArray).toList)=false:=oz.trans (decide_eq_false (fun h=>by rw[h] at h0;simp at h0));have hh:s.headD 0=s[0]:=by
   cases s with
   | nil=>simp at h0
   | cons c r=>rfl
  obtain ⟨c,hc⟩:∃c,c=s[0]:=⟨_,rfl⟩;obtain ⟨b,hb⟩:∃b,b=iP s:=⟨_,rfl⟩;rw[<-hb];unfold iP at hb;rw[hh,<-hc] at hb;clear hh k;refine ae U rfl ?_;repeat' ((conv=>whnf);first|rw[hE]|with_reducible apply aa<;>intro _|(refine ai.ej (k:=0) rfl rfl rfl rfl rfl h0 ?_;rw[<-hc])|refine Br c ?_|refine PY ?_|(have y8:¬16<s.length:=fun h=>of_decide_eq_false (by assumption) (Int.ofNat_lt.2 h);refine aW U rfl (fun k=>[(0,.lit (cU s)),(22,iA s.length),(23,iA (k:Nat))]) (fun _=>[]) (fun k=>k<=s.length/\(s.take k).all cQ=true) (fun k=>s.length - k) 0 ⟨Nat.zero_le _,rfl⟩ [] ⟨rfl,⟨rr,rr,rr,tU⟩,tU⟩ ?_;rintro k ⟨hk,UH⟩;by_cases eZ:k<s.length)|refine ai.ej rfl rfl rfl rfl rfl eZ ?_|refine KR _ ?_)
  all_goals (try conv=>whnf)
  all_goals first
   | exact ck eZ (by assumption)
   | exact cI eZ (by assumption)
   | (rename_i hx;have h1:16<s.length:=Int.ofNat_lt.1 (of_decide_eq_true hx);exact bh (by rw[hb,decide_eq_false (by omega)];rfl))
   | (refine ⟨k+1,[],⟨⟨eZ,?_⟩,by omega⟩,rfl,⟨rr,rr,⟨rfl,aw rfl (aj (by omega) (by omega))⟩,tU⟩,tU⟩;rw[bf eZ,List.all_append,UH];simpa using (by assumption:cQ s[k]=true))
   | (have h1:s.all cQ=false:=List.all_eq_false.2 ⟨_,List.getElem_mem eZ,(by simp[*]:¬cQ s[k]=true)⟩;refine bh ?_;rw[hb,h1,Bool.and_false])
   | (clear hc;refine bh ?_;rw[hb];simp[*];done)
   | (clear hc;rw[List.take_of_length_le (by omega)] at UH;refine bh ?_;rw[hb,UH,decide_eq_true (show 0<s.length/\s.length<=16 by omega)];simp[*];done)
end Go.Proofs.YtmbdghclhpboaaaGreat
namespace Go.Proofs.YtmbdghclhpboaaaGreat
open Go.RowKit
def qT:Option (Nat×Nat)->Nat×Nat×Nat
 | none=>(0,0,0)
 | some b=>(31,b.1,b.2)
def gN(b:Bx):List Value:=[.int .i64 (b.x0:Int),.int .i64 (b.y0:Int),.int .i64 (b.x1:Int),.int .i64 (b.y1:Int)]
def Qr(x:Dc)(v:Value):Array Value:=#[.int .i64 (x.kind:Int),cU x.name,.int .i64 (x.n:Int),v,.bool x.role.any,cU x.role.name,.int .i64 (x.role.n:Int),.int .i64 (x.role.line:Int),.int .i64 (x.role.aS:Int),.int .i64 (x.lo:Int),.int .i64 (x.hi:Int),
 .bool x.label.any,cU x.label.name,.int .i64 (x.label.n:Int),.int .i64 (x.label.line:Int),.int .i64 (x.label.aS:Int),.bool x.wh.any,cU x.wh.name,.int .i64 (x.wh.n:Int),.int .i64 (x.wh.line:Int),.int .i64 (x.wh.aS:Int),.int .i64 (x.bO:Int),.int .i64 (x.line:Int),.int .i64 (x.aS:Int)]
theorem Qs(x:Dc)(v:Value)(h:v.oneCell'=true):(Qr x v).all (·.oneCell')=true:=by
 unfold Value.oneCell' at h;simp[Qr,Value.oneCell',h]
theorem B0:∀(k:Nat) (l:List UInt8) (p:Pt) (out:List Tk),(iQ k l p out).1.length<=out.length+l.length
 | 0,l,p,out=>Nat.le_add_right _ _
 | k+1,l,p,out=>by
   unfold iQ;simp only;cases e:l.drop (dW l) with
   | nil=>simp
   | cons c r=>
     simp only;split
     ·rename_i hz;obtain ⟨h3,-⟩:=od c r hz;have h4:(c::r).length<=l.length:=by rw[<-e,List.length_drop];omega
      refine Nat.le_trans (B0 k _ _ _) ?_;rw[List.length_append,List.length_drop];simp only[List.length_cons,List.length_nil] at h4 ⊢;omega
     ·simp
theorem D4(s:List UInt8):(dp s).1.length<=512:=by
 unfold dp;split
 ·simp
 ·have:=B0 (s.length+1) s Pt.zero [];simp at this;omega
structure Dv where
 x:Dc
 A:Option Addr
 cap:Nat
def Dv.v(y:Dv):Value:=.slice y.A y.x.boxes.length y.cap
def ng(y:Dv):List Value:=(Qr y.x y.v).toList
theorem Qw:zN ng 24:=⟨fun _=>rfl,fun y u h=>by
 have h1:=Qs y.x y.v rfl;rw[Array.all_eq_true'] at h1;exact h1 u (by unfold ng at h;simpa using h)⟩
theorem mD(e:Nat×Nat)(k:Nat)(p:Pr)(out:List Dc)(h:p.l=[]\/p.bad≠none):gV e k p out=(out,p):=by
 cases k with
 | zero=>rfl
 | succ k=>unfold gV;rw[if_pos h]
theorem yJ(e:Nat×Nat)(k:Nat)(p:Pr)(out:List Dc)(h1:p.l≠[])(h2:p.bad=none):gV e (k+1) p out=gV e k (bj e p).2 (out++[(bj e p).1]):=by
 conv=>lhs;unfold gV
 rw[if_neg (by simp[h1,h2])]
end Go.Proofs.YtmbdghclhpboaaaGreat
namespace Go.Proofs.YtmbdghclhpboaaaGreat
open Ev
abbrev X2:TypeId:=325
abbrev fN:TypeId:=180
abbrev nA:TypeId:=76
abbrev CA(n:Nat):Value:=.int .i64 (n:Int)
theorem eR:oI ev 9 cU:=LZ ⟨_,rfl,rfl⟩
theorem gC:pj ev 321 9 (iA 0):=⟨_,_,_,_,rfl,rfl,rfl,rfl,rfl⟩
theorem fU:pj ev 323 9 (.lit (.slice none 0 0)):=⟨_,_,_,_,rfl,rfl,rfl,rfl,rfl⟩
theorem mn:jE ev 171 nA 4:=⟨⟨_,rfl,rfl⟩,_,_,rfl,rfl,rfl,rfl,by decide⟩
theorem sX:jE ev 89 fN 7:=⟨⟨_,rfl,rfl⟩,_,_,rfl,rfl,rfl,rfl,by decide⟩
theorem po(b:Bx):(gN b).length=4:=rfl
structure lI where
 n:List UInt8
 v:Value
 l:List Bx
structure cL where
 x:Rl
 A:Option Addr
 m:Nat
def cL.v(y:cL):Value:=.slice y.A y.x.boxes.length y.m
def eD(y:cL):List Value:=[CA y.x.kind,CA y.x.jT,CA y.x.lo,CA y.x.hi,CA y.x.labels,y.v,CA y.x.bO]
theorem mH(y:cL):(eD y).length=7:=rfl
def ay(pl:List (Value×List Bx)):aH:=aH.star (pl.map fun p=>zP gN p.1 p.2)
theorem Bt{pl:List (Value×List Bx)}{p:Value×List Bx}(hp:p∈pl)(w:World)(S:Nat->Prop)(h:(ay pl).at_ w S):∃oa m,p.1=.slice oa p.2.length m/\(p.2≠[]->∃b off,oa=some ⟨b,off,none⟩/\gZ w b off (p.2.flatMap gN)):=by
 obtain ⟨i,hi⟩:=List.getElem?_of_mem hp;obtain ⟨S1,S2,h1,_⟩:=db (i:=i) (r:=zP gN p.1 p.2) h (by rw[List.getElem?_map,hi];rfl);exact zP.sl h1
theorem qB{pl:List (Value×List Bx)}{v:Value}{l:List Bx}(w:World)(S1 S2:Nat->Prop)(h1:(ay pl).at_ w S1)(h2:(zP gN v l).at_ w S2)(hd:∀b,S1 b->S2 b->False):(ay (pl++[(v,l)])).at_ w (fun b=>S1 b\/S2 b):=by
 show bw ((pl++[(v,l)]).map fun p=>zP gN p.1 p.2) w _
 rw[List.map_append];exact dX.2 ⟨S1,S2,h1,⟨S2,fun _=>False,h2,fun _ h=>h,fun _ _ h=>h,fun b=>by simp⟩,hd,fun b=>Iff.rfl⟩
def uk(c:Ck)(b:Int)(gs:List lI)(pl:List (Value×List Bx))(rv:Value)(rs:List cL):List af:=
 [.cells [.map 1,.map 4,.lit rv,iA b,iA c.fault.err,iA c.fault.line,iA c.fault.aS] X2,.map [(iA 1,.map 2,0),(iA 2,.map 3,1)] 2,.br (mE cU CA c.jT),.br (mE cU CA c.labels),.br (mE cU id (gs.map fun g=>(g.n,g.v))),.res (ay pl),.res (aB eD 7 fN rv rs)]
def o3(c:Ck)(gs:List lI)(pl:List (Value×List Bx))(rv:Value)(rs:List cL):List af:=uk c c.boxes gs pl rv rs
def wA(x:fQ):List AV:=[bA x.any,.lit (cU x.name),iA x.n,iA x.line,iA x.aS]
theorem F9{c:Ck}{b:Int}{gs:List lI}{pl:List (Value×List Bx)}{rv:Value}{rs:List cL}{e l k:Nat} :
  CP [] 416 [.ptr 0 0,iA e,.agg [iA l,iA k]] (uk c b gs pl rv rs) (fun v H'=>v=aP/\∃G,H'=uk (c.aV e l k) b gs pl rv rs++G):=by
 refine ae U rfl ?_;repeat' ((conv=>whnf);with_reducible apply aa<;>intro _)
 all_goals (try conv=>whnf)
 all_goals
  rename_i h
  unfold Ck.aV
  simp only[beq_iff_eq,beq_eq_false_iff_ne,Int.natCast_eq_zero] at h
 ·rw[if_pos (by omega)];exact ⟨rfl,_,rfl⟩
 ·rw[if_neg (by omega)];exact ⟨rfl,_,rfl⟩
theorem fK{c:Ck}{e l k:Nat}:(c.aV e l k).boxes=c.boxes:=by unfold Ck.aV;split<;>rfl
theorem fL{c:Ck}{gs:List lI}{pl:List (Value×List Bx)}{rv:Value}{rs:List cL}{e l k:Nat} :
  CP [] 416 [.ptr 0 0,iA e,.agg [iA l,iA k]] (o3 c gs pl rv rs) (fun v H'=>v=aP/\∃G,H'=o3 (c.aV e l k) gs pl rv rs++G):=by
 unfold o3;rw[fK];exact F9
theorem kH{l:List (List UInt8×Nat)}{k:List UInt8}:cV k l=assoc l k:=by
 unfold cV assoc;have:∀(l:List (List UInt8×Nat)) (i:Nat),(iM k l i).map (·.2)=(l.find? (fun x=>decide (x.1=k))).map (·.2):=by
  intro l;induction l with
  | nil=>intro i;rfl
  | cons p l ih=>
    intro i;unfold iM;by_cases h:k=p.1
    ·rw[if_pos h,List.find?_cons_of_pos (by simp[h])];rfl
    ·rw[if_neg h,List.find?_cons_of_neg (by simp[Ne.symm h])];exact ih _
 exact this l 0
theorem K5{a:Nat}(h:a<=7):IntKind.i64.wrap (1 * 2 ^ min (a:Int).toNat IntKind.i64.bits)=((2 ^ a:Nat):Int):=by
 rw[S8 (l:=(a:Int)) (by omega)];unfold p2;simp
theorem z8{k:Nat}{x:fQ}{c:Ck}(h:x.any=true):cP k x c=(255,c):=by unfold cP;rw[if_pos h]
theorem CW{k a:Nat}{x:fQ}{c:Ck}{l:List (List UInt8×Nat)}(hl:c.names k=l)(h:x.any=false)(hn:(!(⟨x.name.toArray⟩:ByteArray).toList==(⟨#[]⟩:ByteArray).toList)=true)(ha:cV x.name l=some a)(h7:decide ((a:Int)>7)=true):cP k x c=(0,c.aV 33 x.line x.aS):=by
 have hn:x.name≠[]:=by simpa [ByteArray.toList_eq] using hn
 have h7:=of_decide_eq_true h7;rw[kH] at ha;unfold cP;simp only[h,Bool.false_eq_true,if_false,hn,ne_eq,not_false_eq_true,if_true,hl,ha,Option.getD_some,reduceCtorEq,and_false];rw[if_pos (by omega)]
theorem CX{k a:Nat}{x:fQ}{c:Ck}{l:List (List UInt8×Nat)}(hl:c.names k=l)(h:x.any=false)(hn:(!(⟨x.name.toArray⟩:ByteArray).toList==(⟨#[]⟩:ByteArray).toList)=true)(ha:cV x.name l=some a)(h7:decide ((a:Int)>7)=false):cP k x c=(2 ^ a,c)/\a<=7:=by
 have hn:x.name≠[]:=by simpa [ByteArray.toList_eq] using hn
 have h7:=of_decide_eq_false h7;rw[kH] at ha;unfold cP;simp only[h,Bool.false_eq_true,if_false,hn,ne_eq,not_false_eq_true,if_true,hl,ha,Option.getD_some,reduceCtorEq,and_false];rw[if_neg (by omega)];exact ⟨rfl,by omega⟩
theorem CY{k:Nat}{x:fQ}{c:Ck}{l:List (List UInt8×Nat)}(hl:c.names k=l)(h:x.any=false)(hn:(!(⟨x.name.toArray⟩:ByteArray).toList==(⟨#[]⟩:ByteArray).toList)=true)(ha:cV x.name l=none):cP k x c=(1,c.aV 21 x.line x.aS):=by
 have hn:x.name≠[]:=by simpa [ByteArray.toList_eq] using hn
 rw[kH] at ha;unfold cP;simp[h,hn,hl,ha]
theorem z9{k:Nat}{x:fQ}{c:Ck}(h:x.any=false)(hn:(!(⟨x.name.toArray⟩:ByteArray).toList==(⟨#[]⟩:ByteArray).toList)=false)(h7:decide ((x.n:Int)>7)=true):cP k x c=(0,c.aV 33 x.line x.aS):=by
 have hn:x.name=[]:=by simpa [ByteArray.toList_eq] using hn
 have h7:=of_decide_eq_true h7;unfold cP;simp only[h,Bool.false_eq_true,if_false,hn,ne_eq,not_true_eq_false,false_and];rw[if_pos (by omega)]
theorem Aa{k:Nat}{x:fQ}{c:Ck}(h:x.any=false)(hn:(!(⟨x.name.toArray⟩:ByteArray).toList==(⟨#[]⟩:ByteArray).toList)=false)(h7:decide ((x.n:Int)>7)=false):cP k x c=(2 ^ x.n,c)/\x.n<=7:=by
 have hn:x.name=[]:=by simpa [ByteArray.toList_eq] using hn
 have h7:=of_decide_eq_false h7;unfold cP;simp only[h,Bool.false_eq_true,if_false,hn,ne_eq,not_true_eq_false,false_and];rw[if_neg (by omega)];exact ⟨rfl,by omega⟩
theorem TC{c:Ck}{gs:List lI}{pl:List (Value×List Bx)}{rv:Value}{rs:List cL}{k:Nat}{x:fQ}(hk:k=1\/k=2) :
  CP [] 417 [.ptr 0 0,iA k,.agg (wA x)] (o3 c gs pl rv rs) (fun v H'=>v=iA (cP k x c).1/\∃G,H'=o3 (cP k x c).2 gs pl rv rs++G):=by
 rcases hk with rfl|rfl
 ·refine ae U rfl ?_;repeat' ((conv=>whnf);first|with_reducible apply aa<;>intro _|refine aJ.drawn U rfl rfl ?_|with_reducible refine And.intro (aG.mk ⟨_,rfl,rfl⟩) ?_|refine ai.lx _ gC eR rfl rfl rfl rfl (fun a ha=>?_) (fun ha=>?_)|refine And.intro (aG.look _ gC eR rfl rfl rfl rfl rfl (by assumption) rfl rfl) ?_|(refine (fL (c:=c) (gs:=gs) (pl:=pl) (rv:=rv) (rs:=rs) (e:=33) (l:=x.line) (k:=x.aS)).use [0,1,2,3,4,5,6] rfl rfl ⟨⟨_,rfl,rfl⟩,⟨_,rfl,rfl⟩,⟨_,rfl,rfl⟩,⟨_,rfl,rfl⟩,⟨_,rfl,rfl⟩,ko,ko,tU⟩ ?_;rintro _ _ ⟨rfl,G,rfl⟩;refine ⟨[],?_⟩)|(refine (fL (c:=c) (gs:=gs) (pl:=pl) (rv:=rv) (rs:=rs) (e:=21) (l:=x.line) (k:=x.aS)).use [0,1,2,3,4,5,6] rfl rfl ⟨⟨_,rfl,rfl⟩,⟨_,rfl,rfl⟩,⟨_,rfl,rfl⟩,⟨_,rfl,rfl⟩,⟨_,rfl,rfl⟩,ko,ko,tU⟩ ?_;rintro _ _ ⟨rfl,G,rfl⟩;refine ⟨[],?_⟩)|(refine (fL (c:=(c.aV 21 x.line x.aS)) (gs:=gs) (pl:=pl) (rv:=rv) (rs:=rs) (e:=33) (l:=x.line) (k:=x.aS)).use [0,1,2,3,4,5,6] rfl rfl ⟨⟨_,rfl,rfl⟩,⟨_,rfl,rfl⟩,⟨_,rfl,rfl⟩,⟨_,rfl,rfl⟩,⟨_,rfl,rfl⟩,ko,ko,tU⟩ ?_;rintro _ _ ⟨rfl,G,rfl⟩;refine ⟨[],?_⟩)|refine ai.shl rfl rfl (by omega) ?_)
  all_goals (try conv=>whnf)
  ·rw[z8 (by assumption)];exact ⟨rfl,_,rfl⟩
  ·rename_i h1 h2 h3;rw[CW (k:=1) (c:=c) rfl h1 h2 ha h3];exact ⟨rfl,_,rfl⟩
  ·rename_i h1 h2 h3;obtain ⟨e1,e2⟩:=CX (k:=1) (c:=c) rfl h1 h2 ha h3;rw[e1,K5 e2];exact ⟨rfl,_,rfl⟩
  ·rename_i h1 h2;rw[CY (k:=1) (c:=c) rfl h1 h2 ha];exact ⟨congrArg iA (show IntKind.i64.wrap (1 * 2 ^ min (Int.toNat 0) IntKind.i64.bits)=((1:Nat):Int) by decide),_,rfl⟩
  ·rename_i h1 h2 h3;rw[z9 h1 h2 h3];exact ⟨rfl,_,rfl⟩
  ·rename_i h1 h2 h3;obtain ⟨e1,e2⟩:=Aa (k:=1) h1 h2 h3;rw[e1,K5 e2];exact ⟨rfl,_,rfl⟩
 ·refine ae U rfl ?_;repeat' ((conv=>whnf);first|with_reducible apply aa<;>intro _|refine aJ.drawn U rfl rfl ?_|with_reducible refine And.intro (aG.mk ⟨_,rfl,rfl⟩) ?_|refine ai.lx _ gC eR rfl rfl rfl rfl (fun a ha=>?_) (fun ha=>?_)|refine And.intro (aG.look _ gC eR rfl rfl rfl rfl rfl (by assumption) rfl rfl) ?_|(refine (fL (c:=c) (gs:=gs) (pl:=pl) (rv:=rv) (rs:=rs) (e:=33) (l:=x.line) (k:=x.aS)).use [0,1,2,3,4,5,6] rfl rfl ⟨⟨_,rfl,rfl⟩,⟨_,rfl,rfl⟩,⟨_,rfl,rfl⟩,⟨_,rfl,rfl⟩,⟨_,rfl,rfl⟩,ko,ko,tU⟩ ?_;rintro _ _ ⟨rfl,G,rfl⟩;refine ⟨[],?_⟩)|(refine (fL (c:=c) (gs:=gs) (pl:=pl) (rv:=rv) (rs:=rs) (e:=21) (l:=x.line) (k:=x.aS)).use [0,1,2,3,4,5,6] rfl rfl ⟨⟨_,rfl,rfl⟩,⟨_,rfl,rfl⟩,⟨_,rfl,rfl⟩,⟨_,rfl,rfl⟩,⟨_,rfl,rfl⟩,ko,ko,tU⟩ ?_;rintro _ _ ⟨rfl,G,rfl⟩;refine ⟨[],?_⟩)|(refine (fL (c:=(c.aV 21 x.line x.aS)) (gs:=gs) (pl:=pl) (rv:=rv) (rs:=rs) (e:=33) (l:=x.line) (k:=x.aS)).use [0,1,2,3,4,5,6] rfl rfl ⟨⟨_,rfl,rfl⟩,⟨_,rfl,rfl⟩,⟨_,rfl,rfl⟩,⟨_,rfl,rfl⟩,⟨_,rfl,rfl⟩,ko,ko,tU⟩ ?_;rintro _ _ ⟨rfl,G,rfl⟩;refine ⟨[],?_⟩)|refine ai.shl rfl rfl (by omega) ?_)
  all_goals (try conv=>whnf)
  ·rw[z8 (by assumption)];exact ⟨rfl,_,rfl⟩
  ·rename_i h1 h2 h3;rw[CW (k:=2) (c:=c) rfl h1 h2 ha h3];exact ⟨rfl,_,rfl⟩
  ·rename_i h1 h2 h3;obtain ⟨e1,e2⟩:=CX (k:=2) (c:=c) rfl h1 h2 ha h3;rw[e1,K5 e2];exact ⟨rfl,_,rfl⟩
  ·rename_i h1 h2;rw[CY (k:=2) (c:=c) rfl h1 h2 ha];exact ⟨congrArg iA (show IntKind.i64.wrap (1 * 2 ^ min (Int.toNat 0) IntKind.i64.bits)=((1:Nat):Int) by decide),_,rfl⟩
  ·rename_i h1 h2 h3;rw[z9 h1 h2 h3];exact ⟨rfl,_,rfl⟩
  ·rename_i h1 h2 h3;obtain ⟨e1,e2⟩:=Aa (k:=2) h1 h2 h3;rw[e1,K5 e2];exact ⟨rfl,_,rfl⟩
structure zL(c:Ck)(gs:List lI)(pl:List (Value×List Bx)):Prop where
 HR:c.regions=gs.map fun g=>(g.n,g.l)
 NG:∀g∈gs,(g.v,g.l)∈pl/\g.l≠[]/\g.l.length<=1000000/\∃a m,g.v=.slice (some a) g.l.length m
theorem DE{gs:List lI}{k:List UInt8}:∀i,(iM k (gs.map fun g=>(g.n,g.v)) i).map (·.2)=(gs.find? fun g=>decide (k=g.n)).map (·.v):=by
 induction gs with
 | nil=>intro i;rfl
 | cons g gs ih=>
   intro i;simp only[List.map_cons,iM];by_cases h:k=g.n
   ·rw[if_pos h,List.find?_cons_of_pos (by simp[h])];rfl
   ·rw[if_neg h,List.find?_cons_of_neg (by simp[h])];exact ih _
theorem vk{gs:List lI}{k:List UInt8}:assoc (gs.map fun g=>(g.n,g.l)) k=(gs.find? fun g=>decide (k=g.n)).map (·.l):=by
 unfold assoc;induction gs with
 | nil=>rfl
 | cons g gs ih=>
   simp only[List.map_cons];by_cases h:k=g.n
   ·rw[List.find?_cons_of_pos (by simp[h]),List.find?_cons_of_pos (by simp[h])];rfl
   ·rw[List.find?_cons_of_neg (by simp[Ne.symm h]),List.find?_cons_of_neg (by simp[h])];exact ih
theorem DG{c:Ck}{gs:List lI}{pl:List (Value×List Bx)}(h:zL c gs pl){k:List UInt8}{v:Value}(ha:cV k (gs.map fun g=>(g.n,g.v))=some v):∃l a m,v=.slice (some a) l.length m/\(v,l)∈pl/\l≠[]/\l.length<=1000000/\assoc c.regions k=some l:=by
 unfold cV at ha;rw[DE] at ha;rw[h.HR,vk];cases hf:gs.find? fun g=>decide (k=g.n) with
 | none=>rw[hf] at ha;cases ha
 | some g=>
   rw[hf] at ha;have hv:g.v=v:=Option.some.inj ha;obtain ⟨h1,h2,h3,a,m,h4⟩:=h.NG g (List.mem_of_find?_eq_some hf);exact ⟨g.l,a,m,by rw[<-hv,h4],by rw[<-hv];exact h1,h2,h3,rfl⟩
theorem DF{c:Ck}{gs:List lI}{pl:List (Value×List Bx)}(h:zL c gs pl){k:List UInt8}(ha:cV k (gs.map fun g=>(g.n,g.v))=none):assoc c.regions k=none:=by
 unfold cV at ha;rw[DE] at ha;rw[h.HR,vk];cases hf:gs.find? fun g=>decide (k=g.n) with
 | none=>rfl
 | some g=>rw[hf] at ha;cases ha
theorem wI{pl:List (Value×List Bx)}{A:Option Addr}{l:List Bx}{m:Nat}(hp:(.slice A l.length m,l)∈pl)(aN:l≠[])(w:World)(S:Nat->Prop)(h:(ay pl).at_ w S):∃b off,A=some ⟨b,off,none⟩/\gZ w b off (l.flatMap gN):=by
 obtain ⟨oa,m',e,h2⟩:=Bt hp w S h;injection e with e1;subst e1;exact h2 aN
theorem Eg:∀(a:Bx),∀u∈gN a,u.oneCell'=true:=fun a u hu=>by
 simp only[gN,List.mem_cons,List.not_mem_nil,or_false] at hu;rcases hu with rfl|rfl|rfl|rfl<;>rfl
def Yb(v:Value)(l:List Bx):Prop:=(v=aO/\l=[])\/(l≠[]/\∃a m,v=.slice (some a) l.length m)
def vG(c:Ck)(gs:List lI)(pl:List (Value×List Bx))(rv:Value)(rs:List cL)(x:fQ)(v:AV)(H':List af):Prop:=
 ∃V eu,v=.lit V/\Yb V (cH x c).1/\(∀p∈pl,p∈eu)/\((cH x c).1≠[]->(V,(cH x c).1)∈eu)/\∃G,H'=o3 (cH x c).2 gs eu rv rs++G
theorem Ci{c:Ck}{gs:List lI}{pl:List (Value×List Bx)}{rv:Value}{rs:List cL}{x:fQ}(hg:zL c gs pl)(hx:x.any=false) :
  CP [] 418 [.ptr 0 0,.agg (wA x)] (o3 c gs pl rv rs) (vG c gs pl rv rs x):=by
 have hw:cH x c=match assoc c.regions x.name with
  | some l=>(l,c)
  | none=>([],c.aV 21 x.line x.aS):=by unfold cH;rw[if_neg (by simp[hx])];rfl
 unfold wA;rw[hx];unfold vG;rw[hw];cases ha:cV x.name (gs.map fun g=>(g.n,g.v)) with
 | some V=>
   obtain ⟨l,a,m,rfl,im,aN,o9,has⟩:=DG hg ha;rw[has];simp only[]
   ·refine ae U rfl ?_;repeat' ((conv=>whnf);first|with_reducible apply aa<;>intro _|refine aJ.drawn U rfl rfl ?_|with_reducible refine And.intro (aG.mk ⟨_,rfl,rfl⟩) ?_|refine ai.lx _ fU eR rfl rfl rfl rfl (fun b hb=>?_) (fun hb=>by rw[ha] at hb;cases hb)|refine And.intro (aG.look _ fU eR rfl rfl rfl rfl rfl (by assumption) rfl rfl) ?_|(obtain rfl:b=.slice (some a) l.length m:=by rw[ha] at hb;exact (Option.some.inj hb).symm)|(refine ai.om (eU.Kp U mn po (by decide) Eg (i:=5) (j:=5) (l:=l) (R':=fun v'=>ay (pl++[(v',l)])) rfl rfl rfl aN rfl rfl (fun w S h=>?_) (fun v' w S1 S2 h1 h2 hd=>qB w S1 S2 h1 h2 hd) (by omega) ?_)))
    ·exact wI im aN w S h
    ·intro A n;repeat' ((conv=>whnf);first|with_reducible apply aa<;>intro _|refine aJ.drawn U rfl rfl ?_|with_reducible refine And.intro (aG.mk ⟨_,rfl,rfl⟩) ?_ )
     exact ⟨.slice (some A) l.length n,pl++[(.slice (some A) l.length n,l)],rfl,.inr ⟨aN,_,_,rfl⟩,fun p hp=>by simp[hp],fun _=>by simp,_,rfl⟩
 | none=>
   rw[DF hg ha];simp only[]
   ·refine ae U rfl ?_;repeat' ((conv=>whnf);first|with_reducible apply aa<;>intro _|refine aJ.drawn U rfl rfl ?_|with_reducible refine And.intro (aG.mk ⟨_,rfl,rfl⟩) ?_|refine ai.lx _ fU eR rfl rfl rfl rfl (fun b hb=>by rw[ha] at hb;cases hb) (fun hb=>?_)|refine And.intro (aG.look _ fU eR rfl rfl rfl rfl rfl (by assumption) rfl rfl) ?_|refine dP.zero mn rfl ?_|(refine (fL (c:=c) (gs:=gs) (pl:=pl) (rv:=rv) (rs:=rs) (e:=21) (l:=x.line) (k:=x.aS)).use [0,1,2,3,4,5,6] rfl rfl ⟨⟨_,rfl,rfl⟩,⟨_,rfl,rfl⟩,⟨_,rfl,rfl⟩,⟨_,rfl,rfl⟩,⟨_,rfl,rfl⟩,ko,ko,tU⟩ ?_;rintro _ _ ⟨rfl,G,rfl⟩;refine ⟨[],?_⟩))
    all_goals (try conv=>whnf)
    exact ⟨aO,pl,rfl,.inl ⟨rfl,rfl⟩,fun p hp=>hp,fun h=>absurd rfl h,_,rfl⟩
theorem u9{pl:List (Value×List Bx)}{b off m:Nat}{l:List Bx}(aN:l≠[])(w:World)(S1 S2:Nat->Prop)(h1:(ay pl).at_ w S1)(h2:(kF ⟨b,off,none⟩ (l.flatMap gN)).at_ w S2)(hd:∀b,S1 b->S2 b->False):(ay (pl++[(.slice (some ⟨b,off,none⟩) l.length m,l)])).at_ w (fun b=>S1 b\/S2 b):=
 qB w S1 S2 h1 (.inr ⟨⟨b,off,none⟩,m,rfl,rfl,aN,h2⟩) hd
theorem Ej{c:Ck}{gs:List lI}{pl:List (Value×List Bx)}{rv:Value}{rs:List cL}{x:fQ}(hx:x.any=true) :
  CP [] 418 [.ptr 0 0,.agg (wA x)] (o3 c gs pl rv rs) (vG c gs pl rv rs x):=by
 have hw:cH x c=([⟨0,0,65535,65535⟩],c):=by unfold cH;rw[if_pos hx]
 unfold wA;rw[hx];unfold vG;rw[hw];refine ag.post (K:=fun v H'=>∃b off m G G2,v=.lit (.slice (some ⟨b,off,none⟩) 1 m)/\H'=o3 c gs pl rv rs++[G,G2,.res (kF ⟨b,off,none⟩ ([(⟨0,0,65535,65535⟩:Bx)].flatMap gN))]) (ag.SY (K':=fun v H'=>v=.slice 9 0 1 (.k 1)/\∃G G2,H'=o3 c gs pl rv rs++[G,G2,.cells [iA 0,iA 0,iA 65535,iA 65535] nA]) ?_ ?_) ?_
 ··refine ae U rfl ?_;repeat' ((conv=>whnf);first|with_reducible apply aa<;>intro _|refine ae U rfl ?_)
   all_goals (try conv=>whnf)
   exact ⟨rfl,_,_,rfl⟩
 ·rintro _ _ ⟨rfl,G,G2,rfl⟩;refine .inr ⟨9,1,.k 1,[(⟨0,0,65535,65535⟩:Bx)].flatMap gN,nA,rfl,by omega,.inr rfl,fun b off m=>⟨b,off,m,G,G2,rfl,rfl⟩⟩
 ·rintro _ _ ⟨b,off,m,G,G2,rfl,rfl⟩;refine ⟨o3 c gs (pl++[(.slice (some ⟨b,off,none⟩) 1 m,[⟨0,0,65535,65535⟩])]) rv rs++[G,G2,.res aA],fP.same rfl ?_,.slice (some ⟨b,off,none⟩) 1 m,_,rfl,.inr ⟨by simp,_,_,rfl⟩,fun p hp=>by simp[hp],fun _=>by simp,_,rfl⟩;exact (bc.merge (i:=5) (j:=9) rfl rfl rfl (u9 (by simp))).trans (.of_eq rfl)
theorem No{c:Ck}{gs:List lI}{pl:List (Value×List Bx)}{rv:Value}{rs:List cL}{x:fQ}(hg:zL c gs pl) :
  CP [] 418 [.ptr 0 0,.agg (wA x)] (o3 c gs pl rv rs) (vG c gs pl rv rs x):=by
 cases hx:x.any with
 | true=>exact Ej hx
 | false=>exact Ci hg hx
end Go.Proofs.YtmbdghclhpboaaaGreat
namespace Go.Proofs.YtmbdghclhpboaaaGreat
theorem sA(p:Pr):p.on.l.length<=p.l.length:=by unfold Pr.on;simp
theorem tH(e:Nat×Nat)(p:Pr):(p.aV e).l=p.l:=by
 unfold Pr.aV;split<;>rfl
theorem gy(e:Nat×Nat)(s:List UInt8)(p:Pr):(p.want e s).l.length<=p.l.length:=by
 unfold Pr.want;split
 ·exact sA p
 ·rw[tH];exact Nat.le_refl _
theorem IB(e:Nat×Nat)(k:Nat)(p:Pr):(p.take e k).2.l.length<=p.l.length:=by
 unfold Pr.take;split
 ·exact sA p
 ·simp only[tH];exact Nat.le_refl _
theorem sy(e:Nat×Nat)(p:Pr):(gl e p).2.l.length<=p.l.length:=IB e 1 p
theorem mo(e:Nat×Nat)(p:Pr):(fy e p).2.l.length<=p.l.length:=IB e 3 p
theorem Ld(e:Nat×Nat)(p:Pr):(ij e p).2.l.length<=p.l.length:=by
 unfold ij;simp only;split
 ·exact sA p
 ·split
  ·exact sy e p
  ·exact mo e p
theorem MV(e:Nat×Nat)(p:Pr):(fZ e p).2.l.length<=p.l.length:=by
 unfold fZ;simp only;split
 ·exact sA p
 ·exact sy e p
theorem MN(e:Nat×Nat)(p:Pr):(fY e p).2.2.l.length<=p.l.length:=by
 unfold fY;simp only;split
 ·exact sA p
 ·split
  ·exact Nat.le_trans (mo e _) (Nat.le_trans (sA _) (mo e p))
  ·exact mo e p
theorem p9(e:Nat×Nat)(p:Pr):(gG e p).2.l.length<=p.l.length:=
 Nat.le_trans (mo e _) (Nat.le_trans (mo e _) (Nat.le_trans (mo e _) (mo e p)))
theorem Hi(e:Nat×Nat):∀(k:Nat) (p:Pr) (out:List Bx),(fu e k p out).2.l.length<=p.l.length
 | 0,p,out=>Nat.le_refl _
 | k+1,p,out=>by
   unfold fu;split
   ·exact Nat.le_trans (Hi e k _ _) (Nat.le_trans (p9 e _) (sA p))
   ·exact Nat.le_refl _
theorem Ln(e:Nat×Nat)(p:Pr):(bt e p).2.l.length<=p.l.length:=Nat.le_trans (Hi e _ _ _) (p9 e p)
theorem Dn(e:Nat×Nat)(d:Dc)(p:Pr):(fG e d p).2.l.length<=p.l.length:=Nat.le_trans (mo e _) (Nat.le_trans (gy e _ _) (sy e p))
theorem JR(e:Nat×Nat)(d:Dc)(p:Pr):(ei e d p).2.l.length<=p.l.length:=Nat.le_trans (Ln e _) (Nat.le_trans (gy e _ _) (sy e p))
theorem C0(e:Nat×Nat)(d:Dc)(p:Pr):(eh e d p).2.l.length<=p.l.length:=Nat.le_trans (Ld e _) (gy e _ p)
theorem Ih(e:Nat×Nat)(d:Dc)(p:Pr):(de e d p).2.l.length<=p.l.length:=
 Nat.le_trans (mo e _) (Nat.le_trans (gy e _ _) (Nat.le_trans (MV e _) (Nat.le_trans (gy e _ _) (Nat.le_trans (Ld e _) (Nat.le_trans (gy e _ _) (Nat.le_trans (MN e _) (Nat.le_trans (gy e _ _) (C0 e d p))))))))
theorem zx{p:Pr}(h:p.bad≠none)(s:List UInt8):p.is s=false:=by
 unfold Pr.is;cases hb:p.bad with
 | none=>exact absurd hb h
 | some b=>rfl
theorem sZ{p:Pr}(h:p.bad≠none)(k:Nat):p.kind k=false:=by
 unfold Pr.kind;cases hb:p.bad with
 | none=>exact absurd hb h
 | some b=>rfl
theorem uD{p:Pr}(h:p.bad≠none)(e:Nat×Nat):p.aV e=p:=by
 unfold Pr.aV;cases hb:p.bad with
 | none=>exact absurd hb h
 | some b=>rfl
theorem pn{p:Pr}(h:p.bad≠none)(e:Nat×Nat)(s:List UInt8):p.want e s=p:=by unfold Pr.want;rw[zx h];exact uD h e
theorem s7{p:Pr}(h:p.bad≠none)(e:Nat×Nat)(k:Nat):(p.take e k).2=p:=by unfold Pr.take;rw[sZ h];exact uD h e
theorem FT{p:Pr}(h:p.bad≠none)(e:Nat×Nat):(ij e p).2=p:=by
 unfold ij;simp only[zx h,sZ h,Bool.false_eq_true,if_false];exact s7 h e 3
theorem IT{p:Pr}(h:p.bad≠none)(e:Nat×Nat):(fZ e p).2=p:=by
 unfold fZ;simp only[zx h,Bool.false_eq_true,if_false];exact s7 h e 1
theorem IS{p:Pr}(h:p.bad≠none)(e:Nat×Nat):(fY e p).2.2=p:=by
 have h1:(fy e p).2=p:=s7 h e 3;unfold fY;simp only[zx h,Bool.false_eq_true,if_false,h1]
theorem xi{p:Pr}(h:p.bad≠none)(e:Nat×Nat)(d:Dc):(de e d p).2=p:=by
 have hc:(eh e d p).2=p:=by unfold eh;simp only[pn h,FT h]
 unfold de;simp only[hc,pn h,IS h,FT h,IT h];exact s7 h e 3
theorem iB(e:Nat×Nat)(p:Pr):(p.aV e).bad≠none:=by
 unfold Pr.aV;cases hb:p.bad with
 | none=>simp
 | some b=>simp[hb]
theorem xE{p:Pr}{s:List UInt8}(h:p.is s=true):p.on.l.length<p.l.length:=by
 unfold Pr.is at h;unfold Pr.on;cases hl:p.l with
 | nil=>rw[hl] at h;simp at h
 | cons t r=>simp
theorem Ah(e:Nat×Nat)(p:Pr):(bj e p).2.l.length<p.l.length\/((bj e p).2.bad≠none/\(bj e p).2.l.length<=p.l.length):=by
 unfold bj;simp only;by_cases b0:p.is bQ=true
 ·rw[if_pos b0];exact .inl (Nat.lt_of_le_of_lt (Nat.le_trans (gy e _ _) (Dn e _ _)) (xE b0))
 rw[if_neg b0];by_cases b1:p.is bK=true
 ·rw[if_pos b1];exact .inl (Nat.lt_of_le_of_lt (Nat.le_trans (gy e _ _) (Dn e _ _)) (xE b1))
 rw[if_neg b1];by_cases b2:p.is bX=true
 ·rw[if_pos b2];exact .inl (Nat.lt_of_le_of_lt (Nat.le_trans (gy e _ _) (JR e _ _)) (xE b2))
 rw[if_neg b2];by_cases b3:p.is dc=true
 ·rw[if_pos b3];exact .inl (Nat.lt_of_le_of_lt (Nat.le_trans (gy e _ _) (Ih e _ _)) (xE b3))
 rw[if_neg b3];by_cases b4:p.is iH=true
 ·rw[if_pos b4];exact .inl (Nat.lt_of_le_of_lt (Nat.le_trans (gy e _ _) (Ih e _ _)) (xE b4))
 rw[if_neg b4];by_cases b5:p.is eF=true
 ·rw[if_pos b5];exact .inl (Nat.lt_of_le_of_lt (Nat.le_trans (gy e _ _) (C0 e _ _)) (xE b5))
 rw[if_neg b5];refine .inr ?_;have h:=iB e p;rw[xi h,pn h];exact ⟨h,by rw[tH];exact Nat.le_refl _⟩
end Go.Proofs.YtmbdghclhpboaaaGreat
