/- Part of the proof: Rf11e Rf11f Rf12. Conditions: as each states. -/
import Derived.Test.YtmbdghclhpboaaaGreatPw37
set_option linter.all false
set_option maxRecDepth 100000
set_option maxHeartbeats 8000000
namespace Go.Proofs.YtmbdghclhpboaaaGreat
open Ev Go.RowKit
theorem aZ{p:Pr}{s s':List UInt8}(h:p.is s=true)(aN:s≠s'):p.is s'=false:=by
 unfold Pr.is at h ⊢;cases hl:p.l with
 | nil=>simp
 | cons t l=>
   rw[hl] at h;simp only[Bool.and_eq_true,decide_eq_true_eq] at h;simp only[h.2,decide_eq_false aN,Bool.and_false]
section
variable{R:aH}{A:Option Addr}{m:Nat}{e:Nat×Nat}{p:Pr}{pl:List (Value×List Bx)}
theorem RE(hT:jt R A m p.l):CP [] 175 [.agg (kg A m e p)] [.res R,.res (ay pl)] (fun v H'=>∃A' m',jt R A' m' (bt e p).2.l/\∃a k,a.spot=none/\v=.tuple [.agg (kg A' m' e (bt e p).2),.lit (.slice (some a) (bt e p).1.length k)]/\(bt e p).1≠[]/\∃G,H'=.res R::.res (ay (pl++[(.slice (some a) (bt e p).1.length k,(bt e p).1)]))::G):=by
 refine ag.post (K:=fun v H'=>∃A' m',jt R A' m' (bt e p).2.l/\∃b off k,v=.tuple [.agg (kg A' m' e (bt e p).2),.lit (.slice (some ⟨b,off,none⟩) (bt e p).1.length k)]/\(bt e p).1≠[]/\H'=[.res R,.res (ay pl),.res (kF ⟨b,off,none⟩ ((bt e p).1.flatMap gN))]) (ag.XJ (K':=fun v H'=>∃A' m',jt R A' m' (bt e p).2.l/\∃n,n+1=(bt e p).1.length/\v=.tuple [.agg (kg A' m' e (bt e p).2),.slice 2 0 (n+1) (.grown 4)]/\H'=[.res R,.res (ay pl),.row ((bt e p).1.flatMap gN) nA]) ?_ ?_) ?_
 ·refine (Pd (e:=e) hT).use [0] rfl rfl ⟨ko,tU⟩ ?_;rintro _ _ ⟨A',m',T,n,hn,rfl,G1,G2,G,rfl⟩;refine ⟨[3],?_⟩;conv=>whnf
  exact ⟨A',m',T,n,hn,rfl,rfl⟩
 ·rintro _ _ ⟨A',m',T,n,hn,rfl,rfl⟩;refine .inr ⟨[.agg (kg A' m' e (bt e p).2)],[],2,n+1,.grown 4,_,nA,rfl,Nat.succ_pos _,rfl,fun u hu=>?_,fun c off k=>⟨A',m',T,c,off,k,by rw[hn];rfl,fun h=>by rw[h] at hn;simp at hn,rfl⟩⟩;rw[List.append_nil,List.mem_singleton] at hu;subst hu;exact fun g _=>rfl
 ·rintro _ _ ⟨A',m',T,b,off,k,rfl,aN,rfl⟩;refine ⟨[.res R,.res (ay (pl++[(.slice (some ⟨b,off,none⟩) (bt e p).1.length k,(bt e p).1)])),.res aA],fP.same rfl ?_,A',m',T,_,k,rfl,rfl,aN,_,rfl⟩;exact (bc.merge (i:=1) (j:=2) rfl rfl rfl (u9 aN)).trans (.of_eq rfl)
def jM(R:aH)(e:Nat×Nat)(pl:List (Value×List Bx))(p:Pr):AV->List af->Prop:=fun v H'=>∃A m,jt R A m (bj e p).2.l/\∃x bv eu,v=.tuple [.agg (kg A m e (bj e p).2),.agg (dA x bv)]/\Ki pl eu bv x.boxes/\((bj e p).2.bad=none->x=(bj e p).1)/\∃G,H'=.res R::.res (ay eu)::G
theorem RJ(hT:jt R A m p.l)(hw:p.is bQ=false/\p.is bK=false/\p.is bX=false/\p.is dc=false/\p.is iH=false/\p.is eF=false):CP [] 97 [.agg (kg A m e p)] [.res R,.res (ay pl)] (jM R e pl p):=by
 unfold jM;have h0:=lE (e:=e) hT;have H1:=Ff (e:=e) hT;have hD:(bj e p).2=p.aV e:=by
  unfold bj;simp only[hw.1,hw.2.1,hw.2.2.1,hw.2.2.2.1,hw.2.2.2.2.1,hw.2.2.2.2.2,Bool.false_eq_true,if_false];rw[xi (iB e p),pn (iB e p)]
 have hn:((p.aV e).bad=none)=False:=eq_false (iB e p);rw[hD];clear hD;obtain ⟨y,hy⟩:∃y,y=p.place e:=⟨_,rfl⟩;rw[<-hy] at h0;clear hy;have W1:=fM (e:=e) (s:=bQ) hT;rw[hw.1] at W1;have W2:=fM (e:=e) (s:=bK) hT;rw[hw.2.1] at W2;have W3:=fM (e:=e) (s:=bX) hT;rw[hw.2.2.1] at W3;have W4:=fM (e:=e) (s:=dc) hT;rw[hw.2.2.2.1] at W4;have W5:=fM (e:=e) (s:=iH) hT;rw[hw.2.2.2.2.1] at W5;have W6:=fM (e:=e) (s:=eF) hT;rw[hw.2.2.2.2.2] at W6;refine ae U rfl ?_;refine eP.of rfl rfl ?_;refine aF.au fun F hF=>?_;repeat' ((conv=>whnf);first|with_reducible apply aa<;>intro _|refine aJ.drawn U rfl rfl ?_|with_reducible refine And.intro (aG.mk ⟨_,rfl,rfl⟩) ?_|refine h0.g [0] rfl rfl ⟨ko,tU⟩ fun G=>?_|refine bL.loop 7 (bL.step U rfl ?_)|refine bL.step U rfl ?_|refine aI.of (k:=1) rfl (by decide) ?_|refine aI.of (k:=2) rfl (by decide) ?_|refine aI.of (k:=3) rfl (by decide) ?_|refine aI.of (k:=4) rfl (by decide) ?_|refine aI.of (k:=5) rfl (by decide) ?_|refine aI.of (k:=6) rfl (by decide) ?_|refine W1.g [0] rfl rfl ⟨ko,tU⟩ fun G=>?_|refine W2.g [0] rfl rfl ⟨ko,tU⟩ fun G=>?_|refine W3.g [0] rfl rfl ⟨ko,tU⟩ fun G=>?_|refine W4.g [0] rfl rfl ⟨ko,tU⟩ fun G=>?_|refine W5.g [0] rfl rfl ⟨ko,tU⟩ fun G=>?_|refine W6.g [0] rfl rfl ⟨ko,tU⟩ fun G=>?_|refine ag.rr H1 [0] rfl rfl ⟨ko,tU⟩ fun A1 m1 T1 G=>?_|(show F _ _ _;subst hF;refine aF.au fun F hF=>?_)|(show F _ _ _;subst hF)|refine ae U rfl ?_)
 all_goals (try conv=>whnf)
 all_goals exact ⟨_,_,T1,{ Dc.zero with line:=y.1,aS:=y.2 },aO,pl,rfl,.inl ⟨rfl,rfl,rfl⟩,fun h=>absurd h (iB e p),_,rfl⟩
theorem RK(hT:jt R A m p.l)(hw:p.is bQ=true):CP [] 97 [.agg (kg A m e p)] [.res R,.res (ay pl)] (jM R e pl p):=by
 unfold jM;have h0:=lE (e:=e) hT;have H1:=xU (e:=e) hT (jf hw);obtain ⟨t,ht⟩:∃t,t=bj e p:=⟨_,rfl⟩;rw[<-ht];unfold bj at ht;simp only[hw,Bool.false_eq_true,if_false,if_true] at ht;unfold fG gl fy at ht;simp only[] at ht;obtain ⟨q1,hq⟩:∃q,q=p.on:=⟨_,rfl⟩;rw[<-hq] at H1 ht;clear hq;have H2:=@fun A m h=>@vm R A m e q1 1 h;obtain ⟨a,hq⟩:∃q,q=q1.take e 1:=⟨_,rfl⟩;rw[<-hq] at H2 ht;clear hq;have H3:=@fun A m h=>@kD R A m e a.2 [61] h;obtain ⟨q2,hq⟩:∃q,q=a.2.want e [61]:=⟨_,rfl⟩;rw[<-hq] at H3 ht;clear hq;have H4:=@fun A m h=>@vm R A m e q2 3 h;obtain ⟨b,hq⟩:∃q,q=q2.take e 3:=⟨_,rfl⟩;rw[<-hq] at H4 ht;clear hq;have H5:=@fun A m h=>@kD R A m e b.2 [59] h;obtain ⟨q9,hq⟩:∃q,q=b.2.want e [59]:=⟨_,rfl⟩;rw[<-hq] at H5 ht;clear hq;subst ht;obtain ⟨y,hy⟩:∃y,y=p.place e:=⟨_,rfl⟩;rw[<-hy] at h0 ⊢;clear hy;have W1:=fM (e:=e) (s:=bQ) hT;rw[hw] at W1;have W2:=fM (e:=e) (s:=bK) hT;rw[aZ (s':=bK) hw (by decide)] at W2;have W3:=fM (e:=e) (s:=bX) hT;rw[aZ (s':=bX) hw (by decide)] at W3;have W4:=fM (e:=e) (s:=dc) hT;rw[aZ (s':=dc) hw (by decide)] at W4;have W5:=fM (e:=e) (s:=iH) hT;rw[aZ (s':=iH) hw (by decide)] at W5;have W6:=fM (e:=e) (s:=eF) hT;rw[aZ (s':=eF) hw (by decide)] at W6;refine ae U rfl ?_;refine eP.of rfl rfl ?_;refine aF.au fun F hF=>?_;repeat' ((conv=>whnf);first|with_reducible apply aa<;>intro _|refine aJ.drawn U rfl rfl ?_|with_reducible refine And.intro (aG.mk ⟨_,rfl,rfl⟩) ?_|refine h0.g [0] rfl rfl ⟨ko,tU⟩ fun G=>?_|refine bL.loop 7 (bL.step U rfl ?_)|refine bL.step U rfl ?_|refine aI.of (k:=1) rfl (by decide) ?_|refine aI.of (k:=2) rfl (by decide) ?_|refine aI.of (k:=3) rfl (by decide) ?_|refine aI.of (k:=4) rfl (by decide) ?_|refine aI.of (k:=5) rfl (by decide) ?_|refine aI.of (k:=6) rfl (by decide) ?_|refine W1.g [0] rfl rfl ⟨ko,tU⟩ fun G=>?_|refine W2.g [0] rfl rfl ⟨ko,tU⟩ fun G=>?_|refine W3.g [0] rfl rfl ⟨ko,tU⟩ fun G=>?_|refine W4.g [0] rfl rfl ⟨ko,tU⟩ fun G=>?_|refine W5.g [0] rfl rfl ⟨ko,tU⟩ fun G=>?_|refine W6.g [0] rfl rfl ⟨ko,tU⟩ fun G=>?_|refine ag.rr H1 [0] rfl rfl ⟨ko,tU⟩ fun A1 m1 T1 G=>?_|refine ag.rr (H2 _ _ T1) [0] rfl rfl ⟨ko,tU⟩ fun A2 m2 T2 G=>?_|refine ag.rr (H3 _ _ T2) [0] rfl rfl ⟨ko,tU⟩ fun A3 m3 T3 G=>?_|refine ag.rr (H4 _ _ T3) [0] rfl rfl ⟨ko,tU⟩ fun A4 m4 T4 G=>?_|refine ag.rr (H5 _ _ T4) [0] rfl rfl ⟨ko,tU⟩ fun A5 m5 T5 G=>?_|(show F _ _ _;subst hF;refine aF.au fun F hF=>?_)|(show F _ _ _;subst hF)|refine ae U rfl ?_)
 all_goals (try conv=>whnf)
 all_goals exact ⟨_,_,T5,_,aO,pl,rfl,.inl ⟨rfl,rfl,rfl⟩,fun _=>rfl,_,rfl⟩
theorem RL(hT:jt R A m p.l)(hw:p.is bK=true):CP [] 97 [.agg (kg A m e p)] [.res R,.res (ay pl)] (jM R e pl p):=by
 unfold jM;have h0:=lE (e:=e) hT;have H1:=xU (e:=e) hT (jf hw);obtain ⟨t,ht⟩:∃t,t=bj e p:=⟨_,rfl⟩;rw[<-ht];unfold bj at ht;simp only[aZ (s':=bQ) hw (by decide),hw,Bool.false_eq_true,if_false,if_true] at ht;unfold fG gl fy at ht;simp only[] at ht;obtain ⟨q1,hq⟩:∃q,q=p.on:=⟨_,rfl⟩;rw[<-hq] at H1 ht;clear hq;have H2:=@fun A m h=>@vm R A m e q1 1 h;obtain ⟨a,hq⟩:∃q,q=q1.take e 1:=⟨_,rfl⟩;rw[<-hq] at H2 ht;clear hq;have H3:=@fun A m h=>@kD R A m e a.2 [61] h;obtain ⟨q2,hq⟩:∃q,q=a.2.want e [61]:=⟨_,rfl⟩;rw[<-hq] at H3 ht;clear hq;have H4:=@fun A m h=>@vm R A m e q2 3 h;obtain ⟨b,hq⟩:∃q,q=q2.take e 3:=⟨_,rfl⟩;rw[<-hq] at H4 ht;clear hq;have H5:=@fun A m h=>@kD R A m e b.2 [59] h;obtain ⟨q9,hq⟩:∃q,q=b.2.want e [59]:=⟨_,rfl⟩;rw[<-hq] at H5 ht;clear hq;subst ht;obtain ⟨y,hy⟩:∃y,y=p.place e:=⟨_,rfl⟩;rw[<-hy] at h0 ⊢;clear hy;have W1:=fM (e:=e) (s:=bQ) hT;rw[aZ (s':=bQ) hw (by decide)] at W1;have W2:=fM (e:=e) (s:=bK) hT;rw[hw] at W2;have W3:=fM (e:=e) (s:=bX) hT;rw[aZ (s':=bX) hw (by decide)] at W3;have W4:=fM (e:=e) (s:=dc) hT;rw[aZ (s':=dc) hw (by decide)] at W4;have W5:=fM (e:=e) (s:=iH) hT;rw[aZ (s':=iH) hw (by decide)] at W5;have W6:=fM (e:=e) (s:=eF) hT;rw[aZ (s':=eF) hw (by decide)] at W6;refine ae U rfl ?_;refine eP.of rfl rfl ?_;refine aF.au fun F hF=>?_;repeat' ((conv=>whnf);first|with_reducible apply aa<;>intro _|refine aJ.drawn U rfl rfl ?_|with_reducible refine And.intro (aG.mk ⟨_,rfl,rfl⟩) ?_|refine h0.g [0] rfl rfl ⟨ko,tU⟩ fun G=>?_|refine bL.loop 7 (bL.step U rfl ?_)|refine bL.step U rfl ?_|refine aI.of (k:=1) rfl (by decide) ?_|refine aI.of (k:=2) rfl (by decide) ?_|refine aI.of (k:=3) rfl (by decide) ?_|refine aI.of (k:=4) rfl (by decide) ?_|refine aI.of (k:=5) rfl (by decide) ?_|refine aI.of (k:=6) rfl (by decide) ?_|refine W1.g [0] rfl rfl ⟨ko,tU⟩ fun G=>?_|refine W2.g [0] rfl rfl ⟨ko,tU⟩ fun G=>?_|refine W3.g [0] rfl rfl ⟨ko,tU⟩ fun G=>?_|refine W4.g [0] rfl rfl ⟨ko,tU⟩ fun G=>?_|refine W5.g [0] rfl rfl ⟨ko,tU⟩ fun G=>?_|refine W6.g [0] rfl rfl ⟨ko,tU⟩ fun G=>?_|refine ag.rr H1 [0] rfl rfl ⟨ko,tU⟩ fun A1 m1 T1 G=>?_|refine ag.rr (H2 _ _ T1) [0] rfl rfl ⟨ko,tU⟩ fun A2 m2 T2 G=>?_|refine ag.rr (H3 _ _ T2) [0] rfl rfl ⟨ko,tU⟩ fun A3 m3 T3 G=>?_|refine ag.rr (H4 _ _ T3) [0] rfl rfl ⟨ko,tU⟩ fun A4 m4 T4 G=>?_|refine ag.rr (H5 _ _ T4) [0] rfl rfl ⟨ko,tU⟩ fun A5 m5 T5 G=>?_|(show F _ _ _;subst hF;refine aF.au fun F hF=>?_)|(show F _ _ _;subst hF)|refine ae U rfl ?_)
 all_goals (try conv=>whnf)
 all_goals exact ⟨_,_,T5,_,aO,pl,rfl,.inl ⟨rfl,rfl,rfl⟩,fun _=>rfl,_,rfl⟩
theorem RM(hT:jt R A m p.l)(hw:p.is bX=true):CP [] 97 [.agg (kg A m e p)] [.res R,.res (ay pl)] (jM R e pl p):=by
 unfold jM;have h0:=lE (e:=e) hT;have H1:=xU (e:=e) hT (jf hw);obtain ⟨t,ht⟩:∃t,t=bj e p:=⟨_,rfl⟩;rw[<-ht];unfold bj at ht;simp only[aZ (s':=bQ) hw (by decide),aZ (s':=bK) hw (by decide),hw,Bool.false_eq_true,if_false,if_true] at ht;unfold ei gl at ht;simp only[] at ht;obtain ⟨q1,hq⟩:∃q,q=p.on:=⟨_,rfl⟩;rw[<-hq] at H1 ht;clear hq;have H2:=@fun A m h=>@vm R A m e q1 1 h;obtain ⟨a,hq⟩:∃q,q=q1.take e 1:=⟨_,rfl⟩;rw[<-hq] at H2 ht;clear hq;have H3:=@fun A m h=>@kD R A m e a.2 [61] h;obtain ⟨q2,hq⟩:∃q,q=a.2.want e [61]:=⟨_,rfl⟩;rw[<-hq] at H3 ht;clear hq;have H4:=@fun A m h=>@RE R A m e q2 pl h;obtain ⟨b,hq⟩:∃q,q=bt e q2:=⟨_,rfl⟩;rw[<-hq] at H4 ht;clear hq;have H5:=@fun A m h=>@kD R A m e b.2 [59] h;obtain ⟨q9,hq⟩:∃q,q=b.2.want e [59]:=⟨_,rfl⟩;rw[<-hq] at H5 ht;clear hq;subst ht;obtain ⟨y,hy⟩:∃y,y=p.place e:=⟨_,rfl⟩;rw[<-hy] at h0 ⊢;clear hy;have W1:=fM (e:=e) (s:=bQ) hT;rw[aZ (s':=bQ) hw (by decide)] at W1;have W2:=fM (e:=e) (s:=bK) hT;rw[aZ (s':=bK) hw (by decide)] at W2;have W3:=fM (e:=e) (s:=bX) hT;rw[hw] at W3;have W4:=fM (e:=e) (s:=dc) hT;rw[aZ (s':=dc) hw (by decide)] at W4;have W5:=fM (e:=e) (s:=iH) hT;rw[aZ (s':=iH) hw (by decide)] at W5;have W6:=fM (e:=e) (s:=eF) hT;rw[aZ (s':=eF) hw (by decide)] at W6;refine ae U rfl ?_;refine eP.of rfl rfl ?_;refine aF.au fun F hF=>?_;repeat' ((conv=>whnf);first|with_reducible apply aa<;>intro _|refine aJ.drawn U rfl rfl ?_|with_reducible refine And.intro (aG.mk ⟨_,rfl,rfl⟩) ?_|refine h0.g [0] rfl rfl ⟨ko,tU⟩ fun G=>?_|refine bL.loop 7 (bL.step U rfl ?_)|refine bL.step U rfl ?_|refine aI.of (k:=1) rfl (by decide) ?_|refine aI.of (k:=2) rfl (by decide) ?_|refine aI.of (k:=3) rfl (by decide) ?_|refine aI.of (k:=4) rfl (by decide) ?_|refine aI.of (k:=5) rfl (by decide) ?_|refine aI.of (k:=6) rfl (by decide) ?_|refine W1.g [0] rfl rfl ⟨ko,tU⟩ fun G=>?_|refine W2.g [0] rfl rfl ⟨ko,tU⟩ fun G=>?_|refine W3.g [0] rfl rfl ⟨ko,tU⟩ fun G=>?_|refine W4.g [0] rfl rfl ⟨ko,tU⟩ fun G=>?_|refine W5.g [0] rfl rfl ⟨ko,tU⟩ fun G=>?_|refine W6.g [0] rfl rfl ⟨ko,tU⟩ fun G=>?_|refine ag.rr H1 [0] rfl rfl ⟨ko,tU⟩ fun A1 m1 T1 G=>?_|refine ag.rr (H2 _ _ T1) [0] rfl rfl ⟨ko,tU⟩ fun A2 m2 T2 G=>?_|refine ag.rr (H3 _ _ T2) [0] rfl rfl ⟨ko,tU⟩ fun A3 m3 T3 G=>?_|(refine (H4 _ _ T3).use [0,1] rfl rfl ⟨ko,ko,tU⟩ ?_;rintro _ _ ⟨A4,m4,T4,a0,k0,lM,rfl,aN,G,rfl⟩;refine ⟨[],?_⟩)|refine ag.rr (H5 _ _ T4) [0] rfl rfl ⟨ko,tU⟩ fun A5 m5 T5 G=>?_|(show F _ _ _;subst hF;refine aF.au fun F hF=>?_)|(show F _ _ _;subst hF)|refine ae U rfl ?_)
 all_goals (try conv=>whnf)
 all_goals exact ⟨_,_,T5,_,_,_,rfl,.inr ⟨a0,k0,lM,rfl,aN,rfl⟩,fun _=>rfl,_,rfl⟩
theorem RN(hT:jt R A m p.l)(hw:p.is dc=true):CP [] 97 [.agg (kg A m e p)] [.res R,.res (ay pl)] (jM R e pl p):=by
 unfold jM;have h0:=lE (e:=e) hT;have H1:=xU (e:=e) hT (jf hw);obtain ⟨t,ht⟩:∃t,t=bj e p:=⟨_,rfl⟩;rw[<-ht];unfold bj at ht;simp only[aZ (s':=bQ) hw (by decide),aZ (s':=bK) hw (by decide),aZ (s':=bX) hw (by decide),hw,Bool.false_eq_true,if_false,if_true] at ht;obtain ⟨q1,hq⟩:∃q,q=p.on:=⟨_,rfl⟩;rw[<-hq] at H1 ht;clear hq;have H2:=@fun A m h=>@Py R A m e q1 { Dc.zero with line:=(p.place e).1,aS:=(p.place e).2,kind:=4 } h rfl;have gS:=yQ e { Dc.zero with line:=(p.place e).1,aS:=(p.place e).2,kind:=4 } q1;obtain ⟨b,hq⟩:∃q,q=de e { Dc.zero with line:=(p.place e).1,aS:=(p.place e).2,kind:=4 } q1:=⟨_,rfl⟩;rw[<-hq] at H2 ht gS;clear hq;have H5:=@fun A m h=>@kD R A m e b.2 [59] h;obtain ⟨q9,hq⟩:∃q,q=b.2.want e [59]:=⟨_,rfl⟩;rw[<-hq] at H5 ht;clear hq;subst ht;obtain ⟨y,hy⟩:∃y,y=p.place e:=⟨_,rfl⟩;rw[<-hy] at h0 H2;clear hy;have W1:=fM (e:=e) (s:=bQ) hT;rw[aZ (s':=bQ) hw (by decide)] at W1;have W2:=fM (e:=e) (s:=bK) hT;rw[aZ (s':=bK) hw (by decide)] at W2;have W3:=fM (e:=e) (s:=bX) hT;rw[aZ (s':=bX) hw (by decide)] at W3;have W4:=fM (e:=e) (s:=dc) hT;rw[hw] at W4;have W5:=fM (e:=e) (s:=iH) hT;rw[aZ (s':=iH) hw (by decide)] at W5;have W6:=fM (e:=e) (s:=eF) hT;rw[aZ (s':=eF) hw (by decide)] at W6;refine ae U rfl ?_;refine eP.of rfl rfl ?_;refine aF.au fun F hF=>?_;repeat' ((conv=>whnf);first|with_reducible apply aa<;>intro _|refine aJ.drawn U rfl rfl ?_|with_reducible refine And.intro (aG.mk ⟨_,rfl,rfl⟩) ?_|refine h0.g [0] rfl rfl ⟨ko,tU⟩ fun G=>?_|refine bL.loop 7 (bL.step U rfl ?_)|refine bL.step U rfl ?_|refine aI.of (k:=1) rfl (by decide) ?_|refine aI.of (k:=2) rfl (by decide) ?_|refine aI.of (k:=3) rfl (by decide) ?_|refine aI.of (k:=4) rfl (by decide) ?_|refine aI.of (k:=5) rfl (by decide) ?_|refine aI.of (k:=6) rfl (by decide) ?_|refine W1.g [0] rfl rfl ⟨ko,tU⟩ fun G=>?_|refine W2.g [0] rfl rfl ⟨ko,tU⟩ fun G=>?_|refine W3.g [0] rfl rfl ⟨ko,tU⟩ fun G=>?_|refine W4.g [0] rfl rfl ⟨ko,tU⟩ fun G=>?_|refine W5.g [0] rfl rfl ⟨ko,tU⟩ fun G=>?_|refine W6.g [0] rfl rfl ⟨ko,tU⟩ fun G=>?_|refine ag.rr H1 [0] rfl rfl ⟨ko,tU⟩ fun A1 m1 T1 G=>?_|refine ag.rr (H2 _ _ T1) [0] rfl rfl ⟨ko,tU⟩ fun A2 m2 T2 G=>?_|refine ag.rr (H5 _ _ T2) [0] rfl rfl ⟨ko,tU⟩ fun A5 m5 T5 G=>?_|(show F _ _ _;subst hF;refine aF.au fun F hF=>?_)|(show F _ _ _;subst hF)|refine ae U rfl ?_)
 all_goals (try conv=>whnf)
 all_goals exact ⟨_,_,T5,_,aO,pl,rfl,.inl ⟨rfl,gS,rfl⟩,fun _=>rfl,_,rfl⟩
theorem RO(hT:jt R A m p.l)(hw:p.is iH=true):CP [] 97 [.agg (kg A m e p)] [.res R,.res (ay pl)] (jM R e pl p):=by
 unfold jM;have h0:=lE (e:=e) hT;have H1:=xU (e:=e) hT (jf hw);obtain ⟨t,ht⟩:∃t,t=bj e p:=⟨_,rfl⟩;rw[<-ht];unfold bj at ht;simp only[aZ (s':=bQ) hw (by decide),aZ (s':=bK) hw (by decide),aZ (s':=bX) hw (by decide),aZ (s':=dc) hw (by decide),hw,Bool.false_eq_true,if_false,if_true] at ht;obtain ⟨q1,hq⟩:∃q,q=p.on:=⟨_,rfl⟩;rw[<-hq] at H1 ht;clear hq;have H2:=@fun A m h=>@Py R A m e q1 { Dc.zero with line:=(p.place e).1,aS:=(p.place e).2,kind:=5 } h rfl;have gS:=yQ e { Dc.zero with line:=(p.place e).1,aS:=(p.place e).2,kind:=5 } q1;obtain ⟨b,hq⟩:∃q,q=de e { Dc.zero with line:=(p.place e).1,aS:=(p.place e).2,kind:=5 } q1:=⟨_,rfl⟩;rw[<-hq] at H2 ht gS;clear hq;have H5:=@fun A m h=>@kD R A m e b.2 [59] h;obtain ⟨q9,hq⟩:∃q,q=b.2.want e [59]:=⟨_,rfl⟩;rw[<-hq] at H5 ht;clear hq;subst ht;obtain ⟨y,hy⟩:∃y,y=p.place e:=⟨_,rfl⟩;rw[<-hy] at h0 H2;clear hy;have W1:=fM (e:=e) (s:=bQ) hT;rw[aZ (s':=bQ) hw (by decide)] at W1;have W2:=fM (e:=e) (s:=bK) hT;rw[aZ (s':=bK) hw (by decide)] at W2;have W3:=fM (e:=e) (s:=bX) hT;rw[aZ (s':=bX) hw (by decide)] at W3;have W4:=fM (e:=e) (s:=dc) hT;rw[aZ (s':=dc) hw (by decide)] at W4;have W5:=fM (e:=e) (s:=iH) hT;rw[hw] at W5;have W6:=fM (e:=e) (s:=eF) hT;rw[aZ (s':=eF) hw (by decide)] at W6;refine ae U rfl ?_;refine eP.of rfl rfl ?_;refine aF.au fun F hF=>?_;repeat' ((conv=>whnf);first|with_reducible apply aa<;>intro _|refine aJ.drawn U rfl rfl ?_|with_reducible refine And.intro (aG.mk ⟨_,rfl,rfl⟩) ?_|refine h0.g [0] rfl rfl ⟨ko,tU⟩ fun G=>?_|refine bL.loop 7 (bL.step U rfl ?_)|refine bL.step U rfl ?_|refine aI.of (k:=1) rfl (by decide) ?_|refine aI.of (k:=2) rfl (by decide) ?_|refine aI.of (k:=3) rfl (by decide) ?_|refine aI.of (k:=4) rfl (by decide) ?_|refine aI.of (k:=5) rfl (by decide) ?_|refine aI.of (k:=6) rfl (by decide) ?_|refine W1.g [0] rfl rfl ⟨ko,tU⟩ fun G=>?_|refine W2.g [0] rfl rfl ⟨ko,tU⟩ fun G=>?_|refine W3.g [0] rfl rfl ⟨ko,tU⟩ fun G=>?_|refine W4.g [0] rfl rfl ⟨ko,tU⟩ fun G=>?_|refine W5.g [0] rfl rfl ⟨ko,tU⟩ fun G=>?_|refine W6.g [0] rfl rfl ⟨ko,tU⟩ fun G=>?_|refine ag.rr H1 [0] rfl rfl ⟨ko,tU⟩ fun A1 m1 T1 G=>?_|refine ag.rr (H2 _ _ T1) [0] rfl rfl ⟨ko,tU⟩ fun A2 m2 T2 G=>?_|refine ag.rr (H5 _ _ T2) [0] rfl rfl ⟨ko,tU⟩ fun A5 m5 T5 G=>?_|(show F _ _ _;subst hF;refine aF.au fun F hF=>?_)|(show F _ _ _;subst hF)|refine ae U rfl ?_)
 all_goals (try conv=>whnf)
 all_goals exact ⟨_,_,T5,_,aO,pl,rfl,.inl ⟨rfl,gS,rfl⟩,fun _=>rfl,_,rfl⟩
theorem RP(hT:jt R A m p.l)(hw:p.is eF=true):CP [] 97 [.agg (kg A m e p)] [.res R,.res (ay pl)] (jM R e pl p):=by
 unfold jM;have h0:=lE (e:=e) hT;have H1:=xU (e:=e) hT (jf hw);obtain ⟨t,ht⟩:∃t,t=bj e p:=⟨_,rfl⟩;rw[<-ht];unfold bj at ht;simp only[aZ (s':=bQ) hw (by decide),aZ (s':=bK) hw (by decide),aZ (s':=bX) hw (by decide),aZ (s':=dc) hw (by decide),aZ (s':=iH) hw (by decide),hw,Bool.false_eq_true,if_false,if_true] at ht;unfold eh at ht;simp only[] at ht;obtain ⟨q1,hq⟩:∃q,q=p.on:=⟨_,rfl⟩;rw[<-hq] at H1 ht;clear hq;have H2:=@fun A m h=>@kD R A m e q1 bQ h;obtain ⟨q2,hq⟩:∃q,q=q1.want e bQ:=⟨_,rfl⟩;rw[<-hq] at H2 ht;clear hq;have H3:=@fun A m h=>@JX R A m e q2 h;obtain ⟨b,hq⟩:∃q,q=ij e q2:=⟨_,rfl⟩;rw[<-hq] at H3 ht;clear hq;have H5:=@fun A m h=>@kD R A m e b.2 [59] h;obtain ⟨q9,hq⟩:∃q,q=b.2.want e [59]:=⟨_,rfl⟩;rw[<-hq] at H5 ht;clear hq;subst ht;obtain ⟨y,hy⟩:∃y,y=p.place e:=⟨_,rfl⟩;rw[<-hy] at h0 ⊢;clear hy;have W1:=fM (e:=e) (s:=bQ) hT;rw[aZ (s':=bQ) hw (by decide)] at W1;have W2:=fM (e:=e) (s:=bK) hT;rw[aZ (s':=bK) hw (by decide)] at W2;have W3:=fM (e:=e) (s:=bX) hT;rw[aZ (s':=bX) hw (by decide)] at W3;have W4:=fM (e:=e) (s:=dc) hT;rw[aZ (s':=dc) hw (by decide)] at W4;have W5:=fM (e:=e) (s:=iH) hT;rw[aZ (s':=iH) hw (by decide)] at W5;have W6:=fM (e:=e) (s:=eF) hT;rw[hw] at W6;refine ae U rfl ?_;refine eP.of rfl rfl ?_;refine aF.au fun F hF=>?_;repeat' ((conv=>whnf);first|with_reducible apply aa<;>intro _|refine aJ.drawn U rfl rfl ?_|with_reducible refine And.intro (aG.mk ⟨_,rfl,rfl⟩) ?_|refine h0.g [0] rfl rfl ⟨ko,tU⟩ fun G=>?_|refine bL.loop 7 (bL.step U rfl ?_)|refine bL.step U rfl ?_|refine aI.of (k:=1) rfl (by decide) ?_|refine aI.of (k:=2) rfl (by decide) ?_|refine aI.of (k:=3) rfl (by decide) ?_|refine aI.of (k:=4) rfl (by decide) ?_|refine aI.of (k:=5) rfl (by decide) ?_|refine aI.of (k:=6) rfl (by decide) ?_|refine W1.g [0] rfl rfl ⟨ko,tU⟩ fun G=>?_|refine W2.g [0] rfl rfl ⟨ko,tU⟩ fun G=>?_|refine W3.g [0] rfl rfl ⟨ko,tU⟩ fun G=>?_|refine W4.g [0] rfl rfl ⟨ko,tU⟩ fun G=>?_|refine W5.g [0] rfl rfl ⟨ko,tU⟩ fun G=>?_|refine W6.g [0] rfl rfl ⟨ko,tU⟩ fun G=>?_|refine ag.rr H1 [0] rfl rfl ⟨ko,tU⟩ fun A1 m1 T1 G=>?_|refine ag.rr (H2 _ _ T1) [0] rfl rfl ⟨ko,tU⟩ fun A2 m2 T2 G=>?_|refine ag.rr (H3 _ _ T2) [0] rfl rfl ⟨ko,tU⟩ fun A3 m3 T3 G=>?_|refine ag.rr (H5 _ _ T3) [0] rfl rfl ⟨ko,tU⟩ fun A5 m5 T5 G=>?_|(show F _ _ _;subst hF;refine aF.au fun F hF=>?_)|(show F _ _ _;subst hF)|refine ae U rfl ?_)
 all_goals (try conv=>whnf)
 all_goals exact ⟨_,_,T5,_,aO,pl,rfl,.inl ⟨rfl,rfl,rfl⟩,fun _=>rfl,_,rfl⟩
end
theorem Vy{R:aH}{A:Option Addr}{m:Nat}{e:Nat×Nat}{p:Pr}{pl:List (Value×List Bx)}(hT:jt R A m p.l):CP [] 97 [.agg (kg A m e p)] [.res R,.res (ay pl)] (jM R e pl p):=by
 cases h1:p.is bQ
 cases h2:p.is bK
 cases h3:p.is bX
 cases h4:p.is dc
 cases h5:p.is iH
 cases h6:p.is eF
 ·exact RJ hT ⟨h1,h2,h3,h4,h5,h6⟩
 ·exact RP hT h6
 ·exact RO hT h5
 ·exact RN hT h4
 ·exact RM hT h3
 ·exact RL hT h2
 ·exact RK hT h1
def Yv(s:List UInt8):AV->List af->Prop:=fun v H'=>
 ((parse s).2.err=0/\∃rv ds pl,v=.tuple [.lit rv,.agg (pw jK.ok)]/\ds.map Dv.x=(parse s).1/\rA pl ds/\ep rv ds/\∃G,H'=.res (ay pl)::.res (aB ng 24 iz rv ds)::G) \/
 ((parse s).2.err≠0/\∃A,v=.tuple [.lit (.slice A 0 0),.agg (pw (parse s).2)]/\∃R0 R1 G,H'=.res R0::.res R1::G)
structure Yu where
 A:Option Addr
 m:Nat
 p:Pr
 pl:List (Value×List Bx)
 rv:Value
 ds:List Dv
theorem D2:∀(k:Nat) (l:List UInt8) (p:Pt) (out:List Tk),(iQ k l p out).2.err=0->(iQ k l p out).2=jK.ok
 | 0,_,_,_,_=>rfl
 | k+1,l,p,out,h=>by
   unfold iQ at h ⊢;simp only[] at h ⊢;split
   ·rfl
   ·rename_i c r e;rw[e] at h;simp only[] at h;split at h
    ·rename_i hz;rw[if_pos hz];exact D2 k _ _ _ h
    ·rename_i hz;exact absurd h hz
theorem P5{s:List UInt8}(h:(dp s).2.err=0):(dp s).2=jK.ok:=by
 unfold dp at h ⊢;split
 ·rename_i hl;rw[if_pos hl] at h;cases h
 ·rename_i hl;rw[if_neg hl] at h;exact D2 _ _ _ _ h
theorem Pn{s:List UInt8}(he:(dp s).2.err=0):CP [] 34 [.lit (cU s)] [.res (ay []),.res (aB ng 24 iz aO [])] (fun v H'=>
 ((parse s).2.err=0/\∃rv ds pl,v=.tuple [.lit rv,.agg (pw jK.ok)]/\ds.map Dv.x=(parse s).1/\rA pl ds/\ep rv ds/\∃G,H'=.res (ay pl)::.res (aB ng 24 iz rv ds)::G) \/
 ((parse s).2.err≠0/\∃j,v=.tuple [.slice j 0 0 (.k 0),.agg (pw (parse s).2)]/\∃R0 R1 G,H'=.res R0::.res R1::G)):=by
 have hlen:s.length<=1000000:=by
  unfold dp at he;split at he
  ·cases he
  ·omega
 have Uo:=D4 s;have cx:=@Fc s s.length (Nat.le_refl _) (by omega);rw[show iT s s.length=jV s by unfold iT jV;rw[List.take_length]] at cx;obtain ⟨r,hr⟩:∃r,r=gV ((jV s).line,(jV s).aS) ((dp s).1.length+1) ⟨(dp s).1,none⟩ []:=⟨_,rfl⟩;have si:parse s=match r.2.bad with
   | none=>(r.1,jK.ok)
   | some b=>([],⟨31,b.1,b.2⟩):=by rw[hr];unfold parse;rw[if_neg (by simpa using he)];rfl
 rw[si];have fw:=P5 he;refine ae U rfl ?_;refine eP.of rfl rfl ?_;refine aF.au fun F hF=>?_;repeat' ((conv=>whnf);first|with_reducible apply aa<;>intro _|refine aJ.drawn U rfl rfl ?_|with_reducible refine And.intro (aG.mk ⟨_,rfl,rfl⟩) ?_|(refine ag.pre (fP.more (R:=aB oH 5 ow aO []) rfl (bc.jn l7 _)) ?_;refine PE.use [3] rfl rfl ⟨ko,tU⟩ ?_;rintro _ _ (⟨_,A,m,R,⟨hT,gh⟩,rfl,G,rfl⟩|⟨h,_⟩);refine ⟨[],?_⟩;rotate_left;exact absurd he h;rw[fw])|(refine ag.nZ 3 rfl gh fun hm=>?_;refine cx ?_)|(show F _ _ _;subst hF;refine aF.au fun F hF=>?_)|(show F _ _ _;subst hF)|refine ae U rfl ?_)
 obtain ⟨e,QJ⟩:∃e,e=((jV s).line,(jV s).aS):=⟨_,rfl⟩;have e1:(jV s).line=e.1:=by rw[QJ]
 have e2:(jV s).aS=e.2:=by rw[QJ]
 rw[<-QJ] at hr;rw[e1,e2];clear e1 e2 QJ si cx fw;obtain ⟨L,hL⟩:∃L,L=(dp s).1:=⟨_,rfl⟩;rw[<-hL] at hT hr Uo hm ⊢;clear hL gh;conv=>whnf
 refine aW U rfl (fun x:Yu=>[(3,.ptr 2 0),(6,.lit x.rv),(7,.ptr 4 0)]) (fun x=>[.res (ay x.pl),.res (aB ng 24 iz x.rv x.ds),.cells [iA 0,iA 0,iA 0] 86,.res R,.cells (kg x.A x.m e x.p) VJ])
  (fun x=>jt R x.A x.m x.p.l/\rA x.pl x.ds/\ep x.rv x.ds/\(x.p.bad=none->∃k,r=gV e k x.p (x.ds.map Dv.x)/\x.p.l.length<k)/\(x.p.bad≠none->r.2=x.p)/\x.ds.length+(x.p.l.length+(if x.p.bad=none then 1 else 0))<=600)
  (fun x=>2 * x.p.l.length+(if x.p.bad=none then 1 else 0)) ⟨A,m,⟨L,none⟩,[],aO,[]⟩ ⟨⟨hT,hm⟩,(fun y hy=>by cases hy),.inl ⟨rfl,rfl⟩,fun _=>⟨_,hr,Nat.lt_succ_self _⟩,fun h=>absurd rfl h,by show 0+(L.length+1)<=600;omega⟩ [0,1,2,3,5] ?_ ?_
 ·exact ⟨rfl,⟨rr,rr,rr,tU⟩,⟨ko,ko,⟨_,rfl,rfl⟩,ko,⟨_,rfl,rfl⟩,tU⟩⟩
 ·rintro ⟨A,m,p,pl,rv,ds⟩ ⟨h1,ha,hv,hk,EK,fD⟩;simp only[] at h1 ha hv hk EK fD;rcases p with ⟨l,_|b⟩
  ·by_cases j6:l=[]
   ·subst j6;obtain ⟨k,hk,_⟩:=hk rfl;rw[mD _ _ _ _ (.inl rfl)] at hk;subst hk;obtain ⟨A0,m0,rfl⟩:=sO hv;simp only[];repeat' ((conv=>whnf);first|with_reducible apply aa<;>intro _|refine aJ.drawn U rfl rfl ?_|with_reducible refine And.intro (aG.mk ⟨_,rfl,rfl⟩) ?_|(show F _ _ _;subst hF;refine aF.au fun F hF=>?_)|(show F _ _ _;subst hF)|refine ae U rfl ?_)
    all_goals (try conv=>whnf)
    all_goals exact .inl ⟨rfl,_,ds,pl,rfl,rfl,ha,hv,_,rfl⟩
   ·obtain ⟨k,hk,cB⟩:=hk rfl;obtain ⟨k,rfl⟩:∃k',k=k'+1:=⟨k - 1,by omega⟩;rw[yJ _ _ _ _ j6 rfl] at hk;have hc:=Vy (e:=e) (pl:=pl) h1;have zb:=Ah e ⟨l,none⟩;have fD:ds.length+(l.length+1)<=600:=fD;unfold jM at hc;obtain ⟨⟨x,q⟩,hq⟩:∃z,z=bj e ⟨l,none⟩:=⟨_,rfl⟩;rw[<-hq] at hk hc zb;clear hq;simp only[] at hk hc zb cB fD;have QQ:0<l.length:=List.length_pos_iff.2 j6;have tM:2 * q.l.length+(if q.bad=none then 1 else 0)<2 * l.length+1:=by
     rcases zb with h1|h1
     ·split<;>omega
     ·rw[if_neg h1.1];omega
    have Cq:q.l.length+(if q.bad=none then 1 else 0)<l.length+1:=by
     rcases zb with h1|h1
     ·split<;>omega
     ·rw[if_neg h1.1];omega
    have za:q.bad=none->q.l.length<k:=fun h=>by
     rcases zb with h1|h1
     ·omega
     ·exact absurd h h1.1
    have EK:q.bad≠none->r.2=q:=fun h=>by rw[hk,mD _ _ _ _ (.inr h)]
    have Z2:decide ((l.length:Int)>0)=true:=decide_eq_true (Int.ofNat_lt.2 QQ);rcases hv with ⟨rfl,rfl⟩|⟨A0,c0,rfl⟩
    ·simp only[];repeat' ((conv=>whnf);first|with_reducible apply aa<;>intro _|refine aJ.drawn U rfl rfl ?_|with_reducible refine And.intro (aG.mk ⟨_,rfl,rfl⟩) ?_|(exfalso;rename_i hx;have:=of_decide_eq_false hx;exact this (Int.ofNat_lt.2 QQ))|(refine hc.use [3,0] rfl rfl ⟨ko,ko,tU⟩ ?_;rintro _ _ ⟨A',m',T',x',v,eu,rfl,hb,xA,G,rfl⟩;obtain ⟨y,rfl,rfl,xw⟩:=hb.dv ha;refine ⟨[],?_⟩)|(refine dP.om (eU.k9 U zu rJ (by decide) vM (i:=1) (y:=y) (l:=([]:List Dv)) (v:=aO) (R1:=aA) (R':=fun v'=>aB ng 24 iz v' (([]:List Dv)++[y])) rfl rfl rfl rfl rfl rfl rfl gD (fun v'=>iI) (by first|omega|(simp;done)) ?_);intro A2 m2)|(show F _ _ _;subst hF;refine aF.au fun F hF=>?_)|(show F _ _ _;subst hF)|refine ae U rfl ?_)
     all_goals (try conv=>whnf)
     refine ⟨⟨A',m',q,eu,.slice (some A2) (([]:List Dv).length+1) m2,([]:List Dv)++[y]⟩,[0,1,2,3,4],⟨⟨T',xw,.inr ⟨A2,m2,by simp⟩,fun h=>⟨k,?_,za h⟩,EK,by show (([]:List Dv)++[y]).length+_<=600;simp only[List.length_append,List.length_cons,List.length_nil] at fD ⊢;omega⟩,tM⟩,rfl,⟨rr,rr,rr,tU⟩,⟨ko,ko,⟨_,rfl,rfl⟩,ko,⟨_,rfl,rfl⟩,tU⟩⟩;show r=gV e k q ((([]:List Dv)++[y]).map Dv.x)
     rw[List.map_append,hk,<-xA h];rfl
    ·simp only[];repeat' ((conv=>whnf);first|with_reducible apply aa<;>intro _|refine aJ.drawn U rfl rfl ?_|with_reducible refine And.intro (aG.mk ⟨_,rfl,rfl⟩) ?_|(exfalso;rename_i hx;have:=of_decide_eq_false hx;exact this (Int.ofNat_lt.2 QQ))|(refine hc.use [3,0] rfl rfl ⟨ko,ko,tU⟩ ?_;rintro _ _ ⟨A',m',T',x',v,eu,rfl,hb,xA,G,rfl⟩;obtain ⟨y,rfl,rfl,xw⟩:=hb.dv ha;refine ⟨[],?_⟩)|(refine ai.om (eU.k9 U zu rJ (by decide) vM (i:=1) (y:=y) (l:=ds) (v:=.slice (some A0) ds.length c0) (R1:=aA) (R':=fun v'=>aB ng 24 iz v' (ds++[y])) rfl rfl rfl rfl rfl rfl rfl gD (fun v'=>iI) (by first|omega|(simp;done)) ?_);intro A2 m2)|(show F _ _ _;subst hF;refine aF.au fun F hF=>?_)|(show F _ _ _;subst hF)|refine ae U rfl ?_)
     all_goals (try conv=>whnf)
     refine ⟨⟨A',m',q,eu,.slice (some A2) (ds.length+1) m2,ds++[y]⟩,[0,1,2,3,4],⟨⟨T',xw,.inr ⟨A2,m2,by simp⟩,fun h=>⟨k,?_,za h⟩,EK,by show (ds++[y]).length+_<=600;simp only[List.length_append,List.length_cons,List.length_nil] at fD ⊢;omega⟩,tM⟩,rfl,⟨rr,rr,rr,tU⟩,⟨ko,ko,⟨_,rfl,rfl⟩,ko,⟨_,rfl,rfl⟩,tU⟩⟩;show r=gV e k q ((ds++[y]).map Dv.x)
     rw[List.map_append,hk,<-xA h];rfl
  ·have EK:=EK (by simp);rw[EK];obtain ⟨A0,m0,rfl⟩:=sO hv;simp only[];repeat' ((conv=>whnf);first|with_reducible apply aa<;>intro _|refine aJ.drawn U rfl rfl ?_|with_reducible refine And.intro (aG.mk ⟨_,rfl,rfl⟩) ?_|(show F _ _ _;subst hF;refine aF.au fun F hF=>?_)|(show F _ _ _;subst hF)|refine ae U rfl ?_)
   all_goals (try conv=>whnf)
   all_goals first
    | exact .inr ⟨by decide,_,rfl,_,_,_,rfl⟩
theorem Po{s:List UInt8}(he:(dp s).2.err≠0)(hl:s.length<=4611686018427387904):CP [] 34 [.lit (cU s)] [.res (ay []),.res (aB ng 24 iz aO [])] (fun v H'=>(parse s).2.err≠0/\∃j,v=.tuple [.slice j 0 0 (.k 0),.agg (pw (parse s).2)]/\∃R0 R1 G,H'=.res R0::.res R1::G):=by
 have si:parse s=([],(dp s).2):=by unfold parse;rw[if_pos he]
 have cx:=@Fc s s.length (Nat.le_refl _) hl;rw[si];refine ae U rfl ?_;refine eP.of rfl rfl ?_;refine aF.au fun F hF=>?_;repeat' ((conv=>whnf);first|with_reducible apply aa<;>intro _|refine aJ.drawn U rfl rfl ?_|with_reducible refine And.intro (aG.mk ⟨_,rfl,rfl⟩) ?_|(refine ag.pre (fP.more (R:=aB oH 5 ow aO []) rfl (bc.jn l7 _)) ?_;refine PE.use [3] rfl rfl ⟨ko,tU⟩ ?_;rintro _ _ (⟨h,_⟩|⟨_,R,(⟨rfl,G,rfl⟩|⟨rfl,G1,G2,e,G,rfl⟩)⟩);exact absurd h he;refine ⟨[],?_⟩;rotate_left;refine ⟨[3],?_⟩;rotate_left)|refine cx ?_|(refine bL.loop 1 (bL.step U rfl ?_))|(show F _ _ _;subst hF;refine aF.au fun F hF=>?_)|(show F _ _ _;subst hF)|refine ae U rfl ?_)
 all_goals (try conv=>whnf)
 all_goals first
  | exact ⟨he,_,rfl,_,_,_,rfl⟩
  | (exfalso;rename_i hx;have:=hx;simp at this;exact he this)
theorem RU{s:List UInt8}(hl:s.length<=4611686018427387904):CP [] 34 [.lit (cU s)] [.res (ay []),.res (aB ng 24 iz aO [])] (Yv s):=by
 by_cases he:(dp s).2.err=0
 ·refine ag.OA (Pn he) ?_;rintro v H' (h|⟨h,j,rfl,h2⟩)
  ·exact .inl (.inl h)
  ·exact .inr ⟨j,_,rfl,fun a=>.inr ⟨h,_,rfl,h2⟩⟩
 ·refine ag.OA (Po he hl) ?_;rintro v H' ⟨h,j,rfl,h2⟩;exact .inr ⟨j,_,rfl,fun a=>.inr ⟨h,_,rfl,h2⟩⟩
def Yt(s:List UInt8)(v:AV)(H':List af):Prop:=∃A m ds R,ds.map Dv.x=(parse s).1/\(pY R A m ds/\∀w S,R.at_ w S->ds.length<=m)/\v=.tuple [.lit (.slice A ds.length m),.agg (pw (parse s).2)]/\∃G,H'=.res R::G
theorem Gj{R:aH}{A:Option Addr}{m:Nat}:pY R A m []:=⟨fun h=>absurd rfl h,fun y hy=>(by cases hy),by decide,fun y hy=>(by cases hy)⟩
theorem Bl{s:List UInt8}(h:(parse s).2.err≠0):(parse s).1=[]:=by
 unfold parse at h ⊢;split
 ·rfl
 ·rename_i h0;rw[if_neg h0] at h;simp only[] at h ⊢;split
  ·rename_i hb;rw[hb] at h;exact absurd rfl h
  ·rfl
theorem JI{s:List UInt8}(h:(parse s).2.err=0):(parse s).2=jK.ok:=by
 unfold parse at h ⊢;split
 ·rename_i h0;rw[if_pos h0] at h;exact absurd h h0
 ·rename_i h0;rw[if_neg h0] at h;simp only[] at h ⊢;split
  ·rfl
  ·rename_i hb;rw[hb] at h;cases h
theorem Pp{s:List UInt8}(hl:s.length<=4611686018427387904):CP [] 34 [.lit (cU s)] [] (Yt s):=by
 refine ag.post (ag.pre (fP.more (R:=ay []) rfl (bc.jn oh _)) (ag.pre (fP.more (R:=aB ng 24 iz aO []) rfl (bc.jn l7 _)) (RU hl))) ?_;rintro _ _ (⟨he,rv,ds,pl,rfl,hp,ha,hv,G,rfl⟩|⟨he,A,rfl,R0,R1,G,rfl⟩)
 ·have hlen:ds.length<=1000000/\∀y∈ds,y.x.boxes.length<=1000000:=by
   refine ⟨?_,fun y hy=>?_⟩
   ·have h:=Bm s;rw[<-hp,List.length_map] at h;omega
   ·have h:=wH s y.x (by rw[<-hp];exact List.mem_map_of_mem hy);omega
  refine ⟨.res (uL rv ds pl)::.res aA::G,fP.same rfl ((bc.merge (i:=0) (j:=1) rfl rfl rfl C5).trans (.of_eq rfl)),?_⟩;rw[<-JI he];rcases hv with ⟨rfl,rfl⟩|⟨A,m,rfl⟩
  ·exact ⟨none,0,[],_,hp,⟨Gj,fun _ _ _=>Nat.le_refl _⟩,rfl,_,rfl⟩
  ·refine ⟨some A,m,ds,_,hp,⟨C4 ha hlen,fun w S h=>?_⟩,rfl,_,rfl⟩;obtain ⟨_,S2,h2⟩:=te h;exact Bi h2
 ·exact ⟨_,fP.same rfl (.refl _),A,0,[],R0,by rw[Bl he];rfl,⟨Gj,fun _ _ _=>Nat.le_refl _⟩,rfl,_,rfl⟩
def fB(l:List Dv)(k:Nat)(s:List UInt8):Option Dv:=l.find? fun y=>decide (y.x.kind=k)&&decide (y.x.name=s)
def Nt:Option Dv->AV
 | some y=>.tuple [.agg (dA y.x y.v),bA true]
 | none=>.tuple [.agg (dA Dc.zero aO),bA false]
theorem pY.take{R:aH}{A:Option Addr}{m:Nat}{ds:List Dv}(h:pY R A m ds)(i:Nat):pY R A m (ds.take i) where
 rd:=fun aN=>by
  obtain ⟨a,e,bq⟩:=h.rd (fun h0=>aN (by rw[h0,List.take_nil]));refine ⟨a,e,fun w S hw k hk=>?_⟩;rw[List.length_take] at hk;rw[List.getElem_take];exact bq w S hw k (by omega)
 bx:=fun y hy=>h.bx y (List.mem_of_mem_take hy)
 len:=⟨by have:=h.len.1;rw[List.length_take];omega,fun y hy=>h.len.2 y (List.mem_of_mem_take hy)⟩
theorem vi{R:aH}{A:Option Addr}{m c:Nat}{ds:List Dv}{k:Nat}{s:List UInt8}(h:pY R A m ds):CP [] 100 [.lit (.slice A ds.length c),iA k,.lit (cU s)] [.res R] (kl (Nt (fB ds k s)) [.res R]):=by
 obtain ⟨o,ho⟩:∃o,o=fB ds k s:=⟨_,rfl⟩;rw[<-ho];unfold fB at ho;have hn:=h.len.1;refine ae U rfl ?_;conv=>whnf
 refine aW U rfl (fun i:Nat=>[(0,.lit (.slice A ds.length c)),(1,iA k),(2,.lit (cU s)),(6,.ptr 1 0),(8,iA (i:Nat))]) (fun _=>[.res R,.cells (dA Dc.zero aO) iz]) (fun i=>i<=ds.length/\o=(ds.drop i).find? fun y=>decide (y.x.kind=k)&&decide (y.x.name=s)) (fun i=>ds.length - i) 0 ⟨Nat.zero_le _,ho⟩ [0,1] ⟨rfl,⟨rr,rr,rr,rr,rr,tU⟩,⟨ko,⟨_,rfl,rfl⟩,tU⟩⟩ ?_;rintro i ⟨hi,he⟩;clear ho;by_cases ah:i<ds.length
 ·obtain ⟨a,rfl,bq⟩:=h.rd.at ah;have dK:kn Tryz.prog R iz 24 a (fun y=>.agg (ng y).toArray) ds:=bq;rw[List.drop_eq_getElem_cons ah,List.find?_cons] at he;have k1:=kn.jx (j:=0) (u:=.int .i64 (ds[i].x.kind:Int)) (ty2:=3) U dK ⟨_,rfl,rfl⟩ ah ⟨_,rfl,rfl⟩ rfl;have k2:=kn.jx (j:=1) (u:=cU ds[i].x.name) (ty2:=9) U dK ⟨_,rfl,rfl⟩ ah ⟨_,rfl,rfl⟩ rfl;have k3:=fun w S hw=>bq w S hw i ah;obtain ⟨y,hy⟩:∃y,y=ds[i]:=⟨_,rfl⟩;rw[<-hy] at he k1 k2;simp only[<-hy] at k3;repeat' ((conv=>whnf);first|with_reducible apply aa<;>intro _|(exfalso;exact ck ah (by assumption))|refine ai.bJ U rfl rfl rfl rfl rfl ah ?_|refine ai.jW U rfl rfl rfl rfl rfl rfl ?_|refine ai.aR (i:=0) (v:=iA y.x.kind) rfl k1 rfl rfl ?_|refine ai.aR (i:=0) (v:=.lit (cU y.x.name)) rfl k2 rfl rfl ?_|refine ai.aR (i:=0) (v:=.agg (dA y.x y.v)) rfl k3 rfl rfl ?_|refine ae U rfl ?_)
  all_goals (try conv=>whnf)
  ·rename_i hk ht;rw[LY] at hk;rw[oz] at ht;rw[hk,ht] at he;subst he;exact ⟨rfl,_,rfl⟩
  ·rename_i hk ht;rw[LY] at hk;rw[oz] at ht;rw[hk,ht] at he;exact ⟨i+1,[0,1],⟨⟨ah,he⟩,Nat.sub_lt_sub_left ah (Nat.lt_succ_self _)⟩,rfl,⟨rr,rr,rr,rr,⟨rfl,aw rfl (aj (by omega) (by omega))⟩,tU⟩,⟨ko,⟨_,rfl,rfl⟩,tU⟩⟩
  ·rename_i hk;rw[LY] at hk;rw[hk,Bool.false_and] at he;exact ⟨i+1,[0,1],⟨⟨ah,he⟩,Nat.sub_lt_sub_left ah (Nat.lt_succ_self _)⟩,rfl,⟨rr,rr,rr,rr,⟨rfl,aw rfl (aj (by omega) (by omega))⟩,tU⟩,⟨ko,⟨_,rfl,rfl⟩,tU⟩⟩
 ·obtain rfl:i=ds.length:=by omega
  rw[List.drop_length] at he;subst he;repeat' ((conv=>whnf);first|with_reducible apply aa<;>intro _|(exfalso;exact cI ah (by assumption))|refine ae U rfl ?_)
  all_goals (try conv=>whnf)
  all_goals exact ⟨rfl,_,rfl⟩
def re(l:List Dv)(k:Nat)(w:fQ):Nat×Nat:=
 if w.any then (255,0)
 else if w.name=[] then (if 7<w.n then (0,33) else (2 ^ w.n,0))
 else match fB l k w.name with
  | none=>(0,21)
  | some y=>if 7<y.x.n then (0,33) else (2 ^ y.x.n,0)
theorem S7{n:Nat}(hn:n<=7){S:List Nat}{H:List af}{K:AV->List af->Prop}(k:K (iA (2 ^ n:Nat)) H):CP S 270 [iA n] H K:=by
 refine ag.pure ?_ (fun _=>rfl) (fun _=>rfl) k;clear k;have h:n=0\/n=1\/n=2\/n=3\/n=4\/n=5\/n=6\/n=7:=by omega
 rcases h with rfl|rfl|rfl|rfl|rfl|rfl|rfl|rfl;all_goals
  refine ae U rfl ?_
  repeat' ((conv=>whnf);first|with_reducible apply aa<;>intro _|refine bL.loop 9 (bL.step U rfl ?_)|refine bL.step U rfl ?_|refine ae U rfl ?_)
  all_goals (try conv=>whnf)
  all_goals rfl
theorem K2{R:aH}{A:Option Addr}{m c:Nat}{ds:List Dv}{k:Nat}{w:fQ}(h:pY R A m ds):CP [] 182 [.lit (.slice A ds.length c),iA k,.agg (wA w)] [.res R] (kl (.tuple [iA (re ds k w).1,iA (re ds k w).2]) [.res R]):=by
 have h1:=vi (c:=c) (k:=k) (s:=w.name) h;unfold re;cases ha:w.any
 ·simp only[Bool.false_eq_true,if_false];by_cases hn:w.name=[]
  ·have hE:((⟨w.name.toArray⟩:ByteArray).toList==(⟨#[]⟩:ByteArray).toList)=true:=oz.trans (decide_eq_true hn);rw[if_pos hn];by_cases h7:7<w.n;all_goals
    first|rw[if_pos h7]|rw[if_neg h7]
    refine ae U rfl ?_
    repeat' ((conv=>whnf);first|rw[ha]|rw[hE]|with_reducible apply aa<;>intro _|(exfalso;rename_i hx;exact of_decide_eq_false hx (Int.ofNat_lt.2 h7))|refine S7 (by omega) ?_)
    all_goals (try conv=>whnf)
    all_goals first
     | exact ⟨rfl,_,rfl⟩
     | (exfalso;rename_i hx;exact h7 (Int.ofNat_lt.1 (of_decide_eq_true hx)))
  ·have hE:((⟨w.name.toArray⟩:ByteArray).toList==(⟨#[]⟩:ByteArray).toList)=false:=oz.trans (decide_eq_false hn);rw[if_neg hn];cases hd:fB ds k w.name with
   | none=>
     rw[hd] at h1;refine ae U rfl ?_;repeat' ((conv=>whnf);first|rw[ha]|rw[hE]|with_reducible apply aa<;>intro _|refine h1.g [0] rfl rfl ⟨ko,tU⟩ fun G=>?_)
     all_goals (try conv=>whnf)
     all_goals exact ⟨rfl,_,rfl⟩
   | some y=>
     rw[hd] at h1;simp only[];by_cases h7:7<y.x.n;all_goals
      first|rw[if_pos h7]|rw[if_neg h7]
      refine ae U rfl ?_
      repeat' ((conv=>whnf);first|rw[ha]|rw[hE]|with_reducible apply aa<;>intro _|(exfalso;rename_i hx;exact of_decide_eq_false hx (Int.ofNat_lt.2 h7))|refine h1.g [0] rfl rfl ⟨ko,tU⟩ fun G=>?_|refine S7 (by omega) ?_)
      all_goals (try conv=>whnf)
      all_goals first
       | exact ⟨rfl,_,rfl⟩
       | (exfalso;rename_i hx;exact h7 (Int.ofNat_lt.1 (of_decide_eq_true hx)))
 ·refine ae U rfl ?_;repeat' ((conv=>whnf);first|rw[ha]|with_reducible apply aa<;>intro _)
  all_goals (try conv=>whnf)
  all_goals exact ⟨rfl,_,rfl⟩
end Go.Proofs.YtmbdghclhpboaaaGreat
