/- Part of the proof: Rf11e Rf11f Rf12. Conditions: as each states. -/
import Derived.Test.YtmbdghclhpboaaaGreatPq40
set_option linter.all false
set_option maxRecDepth 100000
set_option maxHeartbeats 8000000
namespace Go.Proofs.YtmbdghclhpboaaaGreat
open Ev Go.RowKit
theorem bh{p:Pr}{s s':List UInt8}(h:p.is s=true)(aP:s≠s'):p.is s'=false:=by
 unfold Pr.is at h ⊢;cases hl:p.l with
 | nil=>simp
 | cons t l=>
   rw[hl] at h;simp only[Bool.and_eq_true,decide_eq_true_eq] at h;simp only[h.2,decide_eq_false aP,Bool.and_false]
section
variable{R:aC}{A:Option Addr}{m:Nat}{e:Nat×Nat}{p:Pr}{pl:List (Value×List Bx)}
theorem Uj(hT:jY R A m p.l):CP [] 175 [.agg (kZ A m e p)] [.res R,.res (aF pl)] (fun v H'=>∃A' m',jY R A' m' (bF e p).2.l/\∃a k,a.spot=none/\v=.tuple [.agg (kZ A' m' e (bF e p).2),.lit (.slice (some a) (bF e p).1.length k)]/\(bF e p).1≠[]/\∃G,H'=.res R::.res (aF (pl++[(.slice (some a) (bF e p).1.length k,(bF e p).1)]))::G):=by
 refine aj.post (K:=fun v H'=>∃A' m',jY R A' m' (bF e p).2.l/\∃b off k,v=.tuple [.agg (kZ A' m' e (bF e p).2),.lit (.slice (some ⟨b,off,none⟩) (bF e p).1.length k)]/\(bF e p).1≠[]/\H'=[.res R,.res (aF pl),.res (iP ⟨b,off,none⟩ ((bF e p).1.flatMap iy))]) (aj.aaj (K':=fun v H'=>∃A' m',jY R A' m' (bF e p).2.l/\∃n,n+1=(bF e p).1.length/\v=.tuple [.agg (kZ A' m' e (bF e p).2),.slice 2 0 (n+1) (.grown 4)]/\H'=[.res R,.res (aF pl),.row ((bF e p).1.flatMap iy) oA]) ?_ ?_) ?_
 ·refine (Ru (e:=e) hT).use [0] rfl rfl ⟨ko,tU⟩ ?_;rintro _ _ ⟨A',m',T,n,hn,rfl,G1,G2,G,rfl⟩;refine ⟨[3],?_⟩;conv=>whnf
  exact ⟨A',m',T,n,hn,rfl,rfl⟩
 ·rintro _ _ ⟨A',m',T,n,hn,rfl,rfl⟩;refine .inr ⟨[.agg (kZ A' m' e (bF e p).2)],[],2,n+1,.grown 4,_,oA,rfl,Nat.succ_pos _,rfl,fun u hu=>?_,fun c off k=>⟨A',m',T,c,off,k,by rw[hn];rfl,fun h=>by rw[h] at hn;simp at hn,rfl⟩⟩;rw[List.append_nil,List.mem_singleton] at hu;subst hu;exact fun g _=>rfl
 ·rintro _ _ ⟨A',m',T,b,off,k,rfl,aP,rfl⟩;refine ⟨[.res R,.res (aF (pl++[(.slice (some ⟨b,off,none⟩) (bF e p).1.length k,(bF e p).1)])),.res aB],eg.same rfl ?_,A',m',T,_,k,rfl,rfl,aP,_,rfl⟩;exact (bj.merge (i:=1) (j:=2) rfl rfl rfl (vH aP)).trans (.of_eq rfl)
def kC(R:aC)(e:Nat×Nat)(pl:List (Value×List Bx))(p:Pr):AV->List ai->Prop:=fun v H'=>∃A m,jY R A m (br e p).2.l/\∃x bv eY,v=.tuple [.agg (kZ A m e (br e p).2),.agg (dA x bv)]/\LO pl eY bv x.boxes/\((br e p).2.bad=none->x=(br e p).1)/\∃G,H'=.res R::.res (aF eY)::G
theorem Uo(hT:jY R A m p.l)(hw:p.is cd=false/\p.is bU=false/\p.is cC=false/\p.is dH=false/\p.is jn=false/\p.is fi=false):CP [] 97 [.agg (kZ A m e p)] [.res R,.res (aF pl)] (kC R e pl p):=by
 unfold kC;have h0:=ma (e:=e) hT;have H1:=Gy (e:=e) hT;have hD:(br e p).2=p.ba e:=by
  unfold br;simp only[hw.1,hw.2.1,hw.2.2.1,hw.2.2.2.1,hw.2.2.2.2.1,hw.2.2.2.2.2,Bool.false_eq_true,if_false];rw[yf (je e p),qa (je e p)]
 have hn:((p.ba e).bad=none)=False:=eq_false (je e p);rw[hD];clear hD;obtain ⟨y,hy⟩:∃y,y=p.place e:=⟨_,rfl⟩;rw[<-hy] at h0;clear hy;have W1:=gq (e:=e) (s:=cd) hT;rw[hw.1] at W1;have W2:=gq (e:=e) (s:=bU) hT;rw[hw.2.1] at W2;have W3:=gq (e:=e) (s:=cC) hT;rw[hw.2.2.1] at W3;have W4:=gq (e:=e) (s:=dH) hT;rw[hw.2.2.2.1] at W4;have W5:=gq (e:=e) (s:=jn) hT;rw[hw.2.2.2.2.1] at W5;have W6:=gq (e:=e) (s:=fi) hT;rw[hw.2.2.2.2.2] at W6;refine ag aa rfl ?_;refine eX.of rfl rfl ?_;refine aI.az fun F hF=>?_;repeat' ((conv=>whnf);first|with_reducible apply af<;>intro _|refine aM.drawn aa rfl rfl ?_|with_reducible refine And.intro (aN.mk ⟨_,rfl,rfl⟩) ?_|refine h0.g [0] rfl rfl ⟨ko,tU⟩ fun G=>?_|refine bS.loop 7 (bS.step aa rfl ?_)|refine bS.step aa rfl ?_|refine aO.of (k:=1) rfl (by decide) ?_|refine aO.of (k:=2) rfl (by decide) ?_|refine aO.of (k:=3) rfl (by decide) ?_|refine aO.of (k:=4) rfl (by decide) ?_|refine aO.of (k:=5) rfl (by decide) ?_|refine aO.of (k:=6) rfl (by decide) ?_|refine W1.g [0] rfl rfl ⟨ko,tU⟩ fun G=>?_|refine W2.g [0] rfl rfl ⟨ko,tU⟩ fun G=>?_|refine W3.g [0] rfl rfl ⟨ko,tU⟩ fun G=>?_|refine W4.g [0] rfl rfl ⟨ko,tU⟩ fun G=>?_|refine W5.g [0] rfl rfl ⟨ko,tU⟩ fun G=>?_|refine W6.g [0] rfl rfl ⟨ko,tU⟩ fun G=>?_|refine aj.rr H1 [0] rfl rfl ⟨ko,tU⟩ fun A1 m1 T1 G=>?_|(show F _ _ _;subst hF;refine aI.az fun F hF=>?_)|(show F _ _ _;subst hF)|refine ag aa rfl ?_)
 all_goals (try conv=>whnf)
 all_goals exact ⟨_,_,T1,{ Dc.zero with line:=y.1,aX:=y.2 },aD,pl,rfl,.inl ⟨rfl,rfl,rfl⟩,fun h=>absurd h (je e p),_,rfl⟩
theorem Up(hT:jY R A m p.l)(hw:p.is cd=true):CP [] 97 [.agg (kZ A m e p)] [.res R,.res (aF pl)] (kC R e pl p):=by
 unfold kC;have h0:=ma (e:=e) hT;have H1:=yV (e:=e) hT (jP hw);obtain ⟨t,ht⟩:∃t,t=br e p:=⟨_,rfl⟩;rw[<-ht];unfold br at ht;simp only[hw,Bool.false_eq_true,if_false,if_true] at ht;unfold gf gN fW at ht;simp only[] at ht;obtain ⟨q1,hq⟩:∃q,q=p.on:=⟨_,rfl⟩;rw[<-hq] at H1 ht;clear hq;have H2:=@fun A m h=>@vS R A m e q1 1 h;obtain ⟨a,hq⟩:∃q,q=q1.take e 1:=⟨_,rfl⟩;rw[<-hq] at H2 ht;clear hq;have H3:=@fun A m h=>@lq R A m e a.2 [61] h;obtain ⟨q2,hq⟩:∃q,q=a.2.want e [61]:=⟨_,rfl⟩;rw[<-hq] at H3 ht;clear hq;have H4:=@fun A m h=>@vS R A m e q2 3 h;obtain ⟨b,hq⟩:∃q,q=q2.take e 3:=⟨_,rfl⟩;rw[<-hq] at H4 ht;clear hq;have H5:=@fun A m h=>@lq R A m e b.2 [59] h;obtain ⟨q9,hq⟩:∃q,q=b.2.want e [59]:=⟨_,rfl⟩;rw[<-hq] at H5 ht;clear hq;subst ht;obtain ⟨y,hy⟩:∃y,y=p.place e:=⟨_,rfl⟩;rw[<-hy] at h0 ⊢;clear hy;have W1:=gq (e:=e) (s:=cd) hT;rw[hw] at W1;have W2:=gq (e:=e) (s:=bU) hT;rw[bh (s':=bU) hw (by decide)] at W2;have W3:=gq (e:=e) (s:=cC) hT;rw[bh (s':=cC) hw (by decide)] at W3;have W4:=gq (e:=e) (s:=dH) hT;rw[bh (s':=dH) hw (by decide)] at W4;have W5:=gq (e:=e) (s:=jn) hT;rw[bh (s':=jn) hw (by decide)] at W5;have W6:=gq (e:=e) (s:=fi) hT;rw[bh (s':=fi) hw (by decide)] at W6;refine ag aa rfl ?_;refine eX.of rfl rfl ?_;refine aI.az fun F hF=>?_;repeat' ((conv=>whnf);first|with_reducible apply af<;>intro _|refine aM.drawn aa rfl rfl ?_|with_reducible refine And.intro (aN.mk ⟨_,rfl,rfl⟩) ?_|refine h0.g [0] rfl rfl ⟨ko,tU⟩ fun G=>?_|refine bS.loop 7 (bS.step aa rfl ?_)|refine bS.step aa rfl ?_|refine aO.of (k:=1) rfl (by decide) ?_|refine aO.of (k:=2) rfl (by decide) ?_|refine aO.of (k:=3) rfl (by decide) ?_|refine aO.of (k:=4) rfl (by decide) ?_|refine aO.of (k:=5) rfl (by decide) ?_|refine aO.of (k:=6) rfl (by decide) ?_|refine W1.g [0] rfl rfl ⟨ko,tU⟩ fun G=>?_|refine W2.g [0] rfl rfl ⟨ko,tU⟩ fun G=>?_|refine W3.g [0] rfl rfl ⟨ko,tU⟩ fun G=>?_|refine W4.g [0] rfl rfl ⟨ko,tU⟩ fun G=>?_|refine W5.g [0] rfl rfl ⟨ko,tU⟩ fun G=>?_|refine W6.g [0] rfl rfl ⟨ko,tU⟩ fun G=>?_|refine aj.rr H1 [0] rfl rfl ⟨ko,tU⟩ fun A1 m1 T1 G=>?_|refine aj.rr (H2 _ _ T1) [0] rfl rfl ⟨ko,tU⟩ fun A2 m2 T2 G=>?_|refine aj.rr (H3 _ _ T2) [0] rfl rfl ⟨ko,tU⟩ fun A3 m3 T3 G=>?_|refine aj.rr (H4 _ _ T3) [0] rfl rfl ⟨ko,tU⟩ fun A4 m4 T4 G=>?_|refine aj.rr (H5 _ _ T4) [0] rfl rfl ⟨ko,tU⟩ fun A5 m5 T5 G=>?_|(show F _ _ _;subst hF;refine aI.az fun F hF=>?_)|(show F _ _ _;subst hF)|refine ag aa rfl ?_)
 all_goals (try conv=>whnf)
 all_goals exact ⟨_,_,T5,_,aD,pl,rfl,.inl ⟨rfl,rfl,rfl⟩,fun _=>rfl,_,rfl⟩
theorem Uq(hT:jY R A m p.l)(hw:p.is bU=true):CP [] 97 [.agg (kZ A m e p)] [.res R,.res (aF pl)] (kC R e pl p):=by
 unfold kC;have h0:=ma (e:=e) hT;have H1:=yV (e:=e) hT (jP hw);obtain ⟨t,ht⟩:∃t,t=br e p:=⟨_,rfl⟩;rw[<-ht];unfold br at ht;simp only[bh (s':=cd) hw (by decide),hw,Bool.false_eq_true,if_false,if_true] at ht;unfold gf gN fW at ht;simp only[] at ht;obtain ⟨q1,hq⟩:∃q,q=p.on:=⟨_,rfl⟩;rw[<-hq] at H1 ht;clear hq;have H2:=@fun A m h=>@vS R A m e q1 1 h;obtain ⟨a,hq⟩:∃q,q=q1.take e 1:=⟨_,rfl⟩;rw[<-hq] at H2 ht;clear hq;have H3:=@fun A m h=>@lq R A m e a.2 [61] h;obtain ⟨q2,hq⟩:∃q,q=a.2.want e [61]:=⟨_,rfl⟩;rw[<-hq] at H3 ht;clear hq;have H4:=@fun A m h=>@vS R A m e q2 3 h;obtain ⟨b,hq⟩:∃q,q=q2.take e 3:=⟨_,rfl⟩;rw[<-hq] at H4 ht;clear hq;have H5:=@fun A m h=>@lq R A m e b.2 [59] h;obtain ⟨q9,hq⟩:∃q,q=b.2.want e [59]:=⟨_,rfl⟩;rw[<-hq] at H5 ht;clear hq;subst ht;obtain ⟨y,hy⟩:∃y,y=p.place e:=⟨_,rfl⟩;rw[<-hy] at h0 ⊢;clear hy;have W1:=gq (e:=e) (s:=cd) hT;rw[bh (s':=cd) hw (by decide)] at W1;have W2:=gq (e:=e) (s:=bU) hT;rw[hw] at W2;have W3:=gq (e:=e) (s:=cC) hT;rw[bh (s':=cC) hw (by decide)] at W3;have W4:=gq (e:=e) (s:=dH) hT;rw[bh (s':=dH) hw (by decide)] at W4;have W5:=gq (e:=e) (s:=jn) hT;rw[bh (s':=jn) hw (by decide)] at W5;have W6:=gq (e:=e) (s:=fi) hT;rw[bh (s':=fi) hw (by decide)] at W6;refine ag aa rfl ?_;refine eX.of rfl rfl ?_;refine aI.az fun F hF=>?_;repeat' ((conv=>whnf);first|with_reducible apply af<;>intro _|refine aM.drawn aa rfl rfl ?_|with_reducible refine And.intro (aN.mk ⟨_,rfl,rfl⟩) ?_|refine h0.g [0] rfl rfl ⟨ko,tU⟩ fun G=>?_|refine bS.loop 7 (bS.step aa rfl ?_)|refine bS.step aa rfl ?_|refine aO.of (k:=1) rfl (by decide) ?_|refine aO.of (k:=2) rfl (by decide) ?_|refine aO.of (k:=3) rfl (by decide) ?_|refine aO.of (k:=4) rfl (by decide) ?_|refine aO.of (k:=5) rfl (by decide) ?_|refine aO.of (k:=6) rfl (by decide) ?_|refine W1.g [0] rfl rfl ⟨ko,tU⟩ fun G=>?_|refine W2.g [0] rfl rfl ⟨ko,tU⟩ fun G=>?_|refine W3.g [0] rfl rfl ⟨ko,tU⟩ fun G=>?_|refine W4.g [0] rfl rfl ⟨ko,tU⟩ fun G=>?_|refine W5.g [0] rfl rfl ⟨ko,tU⟩ fun G=>?_|refine W6.g [0] rfl rfl ⟨ko,tU⟩ fun G=>?_|refine aj.rr H1 [0] rfl rfl ⟨ko,tU⟩ fun A1 m1 T1 G=>?_|refine aj.rr (H2 _ _ T1) [0] rfl rfl ⟨ko,tU⟩ fun A2 m2 T2 G=>?_|refine aj.rr (H3 _ _ T2) [0] rfl rfl ⟨ko,tU⟩ fun A3 m3 T3 G=>?_|refine aj.rr (H4 _ _ T3) [0] rfl rfl ⟨ko,tU⟩ fun A4 m4 T4 G=>?_|refine aj.rr (H5 _ _ T4) [0] rfl rfl ⟨ko,tU⟩ fun A5 m5 T5 G=>?_|(show F _ _ _;subst hF;refine aI.az fun F hF=>?_)|(show F _ _ _;subst hF)|refine ag aa rfl ?_)
 all_goals (try conv=>whnf)
 all_goals exact ⟨_,_,T5,_,aD,pl,rfl,.inl ⟨rfl,rfl,rfl⟩,fun _=>rfl,_,rfl⟩
theorem Ur(hT:jY R A m p.l)(hw:p.is cC=true):CP [] 97 [.agg (kZ A m e p)] [.res R,.res (aF pl)] (kC R e pl p):=by
 unfold kC;have h0:=ma (e:=e) hT;have H1:=yV (e:=e) hT (jP hw);obtain ⟨t,ht⟩:∃t,t=br e p:=⟨_,rfl⟩;rw[<-ht];unfold br at ht;simp only[bh (s':=cd) hw (by decide),bh (s':=bU) hw (by decide),hw,Bool.false_eq_true,if_false,if_true] at ht;unfold eT gN at ht;simp only[] at ht;obtain ⟨q1,hq⟩:∃q,q=p.on:=⟨_,rfl⟩;rw[<-hq] at H1 ht;clear hq;have H2:=@fun A m h=>@vS R A m e q1 1 h;obtain ⟨a,hq⟩:∃q,q=q1.take e 1:=⟨_,rfl⟩;rw[<-hq] at H2 ht;clear hq;have H3:=@fun A m h=>@lq R A m e a.2 [61] h;obtain ⟨q2,hq⟩:∃q,q=a.2.want e [61]:=⟨_,rfl⟩;rw[<-hq] at H3 ht;clear hq;have H4:=@fun A m h=>@Uj R A m e q2 pl h;obtain ⟨b,hq⟩:∃q,q=bF e q2:=⟨_,rfl⟩;rw[<-hq] at H4 ht;clear hq;have H5:=@fun A m h=>@lq R A m e b.2 [59] h;obtain ⟨q9,hq⟩:∃q,q=b.2.want e [59]:=⟨_,rfl⟩;rw[<-hq] at H5 ht;clear hq;subst ht;obtain ⟨y,hy⟩:∃y,y=p.place e:=⟨_,rfl⟩;rw[<-hy] at h0 ⊢;clear hy;have W1:=gq (e:=e) (s:=cd) hT;rw[bh (s':=cd) hw (by decide)] at W1;have W2:=gq (e:=e) (s:=bU) hT;rw[bh (s':=bU) hw (by decide)] at W2;have W3:=gq (e:=e) (s:=cC) hT;rw[hw] at W3;have W4:=gq (e:=e) (s:=dH) hT;rw[bh (s':=dH) hw (by decide)] at W4;have W5:=gq (e:=e) (s:=jn) hT;rw[bh (s':=jn) hw (by decide)] at W5;have W6:=gq (e:=e) (s:=fi) hT;rw[bh (s':=fi) hw (by decide)] at W6;refine ag aa rfl ?_;refine eX.of rfl rfl ?_;refine aI.az fun F hF=>?_;repeat' ((conv=>whnf);first|with_reducible apply af<;>intro _|refine aM.drawn aa rfl rfl ?_|with_reducible refine And.intro (aN.mk ⟨_,rfl,rfl⟩) ?_|refine h0.g [0] rfl rfl ⟨ko,tU⟩ fun G=>?_|refine bS.loop 7 (bS.step aa rfl ?_)|refine bS.step aa rfl ?_|refine aO.of (k:=1) rfl (by decide) ?_|refine aO.of (k:=2) rfl (by decide) ?_|refine aO.of (k:=3) rfl (by decide) ?_|refine aO.of (k:=4) rfl (by decide) ?_|refine aO.of (k:=5) rfl (by decide) ?_|refine aO.of (k:=6) rfl (by decide) ?_|refine W1.g [0] rfl rfl ⟨ko,tU⟩ fun G=>?_|refine W2.g [0] rfl rfl ⟨ko,tU⟩ fun G=>?_|refine W3.g [0] rfl rfl ⟨ko,tU⟩ fun G=>?_|refine W4.g [0] rfl rfl ⟨ko,tU⟩ fun G=>?_|refine W5.g [0] rfl rfl ⟨ko,tU⟩ fun G=>?_|refine W6.g [0] rfl rfl ⟨ko,tU⟩ fun G=>?_|refine aj.rr H1 [0] rfl rfl ⟨ko,tU⟩ fun A1 m1 T1 G=>?_|refine aj.rr (H2 _ _ T1) [0] rfl rfl ⟨ko,tU⟩ fun A2 m2 T2 G=>?_|refine aj.rr (H3 _ _ T2) [0] rfl rfl ⟨ko,tU⟩ fun A3 m3 T3 G=>?_|(refine (H4 _ _ T3).use [0,1] rfl rfl ⟨ko,ko,tU⟩ ?_;rintro _ _ ⟨A4,m4,T4,a0,k0,lK,rfl,aP,G,rfl⟩;refine ⟨[],?_⟩)|refine aj.rr (H5 _ _ T4) [0] rfl rfl ⟨ko,tU⟩ fun A5 m5 T5 G=>?_|(show F _ _ _;subst hF;refine aI.az fun F hF=>?_)|(show F _ _ _;subst hF)|refine ag aa rfl ?_)
 all_goals (try conv=>whnf)
 all_goals exact ⟨_,_,T5,_,_,_,rfl,.inr ⟨a0,k0,lK,rfl,aP,rfl⟩,fun _=>rfl,_,rfl⟩
theorem Us(hT:jY R A m p.l)(hw:p.is dH=true):CP [] 97 [.agg (kZ A m e p)] [.res R,.res (aF pl)] (kC R e pl p):=by
 unfold kC;have h0:=ma (e:=e) hT;have H1:=yV (e:=e) hT (jP hw);obtain ⟨t,ht⟩:∃t,t=br e p:=⟨_,rfl⟩;rw[<-ht];unfold br at ht;simp only[bh (s':=cd) hw (by decide),bh (s':=bU) hw (by decide),bh (s':=cC) hw (by decide),hw,Bool.false_eq_true,if_false,if_true] at ht;obtain ⟨q1,hq⟩:∃q,q=p.on:=⟨_,rfl⟩;rw[<-hq] at H1 ht;clear hq;have H2:=@fun A m h=>@RO R A m e q1 { Dc.zero with line:=(p.place e).1,aX:=(p.place e).2,kind:=4 } h rfl;have iE:=zO e { Dc.zero with line:=(p.place e).1,aX:=(p.place e).2,kind:=4 } q1;obtain ⟨b,hq⟩:∃q,q=dJ e { Dc.zero with line:=(p.place e).1,aX:=(p.place e).2,kind:=4 } q1:=⟨_,rfl⟩;rw[<-hq] at H2 ht iE;clear hq;have H5:=@fun A m h=>@lq R A m e b.2 [59] h;obtain ⟨q9,hq⟩:∃q,q=b.2.want e [59]:=⟨_,rfl⟩;rw[<-hq] at H5 ht;clear hq;subst ht;obtain ⟨y,hy⟩:∃y,y=p.place e:=⟨_,rfl⟩;rw[<-hy] at h0 H2;clear hy;have W1:=gq (e:=e) (s:=cd) hT;rw[bh (s':=cd) hw (by decide)] at W1;have W2:=gq (e:=e) (s:=bU) hT;rw[bh (s':=bU) hw (by decide)] at W2;have W3:=gq (e:=e) (s:=cC) hT;rw[bh (s':=cC) hw (by decide)] at W3;have W4:=gq (e:=e) (s:=dH) hT;rw[hw] at W4;have W5:=gq (e:=e) (s:=jn) hT;rw[bh (s':=jn) hw (by decide)] at W5;have W6:=gq (e:=e) (s:=fi) hT;rw[bh (s':=fi) hw (by decide)] at W6;refine ag aa rfl ?_;refine eX.of rfl rfl ?_;refine aI.az fun F hF=>?_;repeat' ((conv=>whnf);first|with_reducible apply af<;>intro _|refine aM.drawn aa rfl rfl ?_|with_reducible refine And.intro (aN.mk ⟨_,rfl,rfl⟩) ?_|refine h0.g [0] rfl rfl ⟨ko,tU⟩ fun G=>?_|refine bS.loop 7 (bS.step aa rfl ?_)|refine bS.step aa rfl ?_|refine aO.of (k:=1) rfl (by decide) ?_|refine aO.of (k:=2) rfl (by decide) ?_|refine aO.of (k:=3) rfl (by decide) ?_|refine aO.of (k:=4) rfl (by decide) ?_|refine aO.of (k:=5) rfl (by decide) ?_|refine aO.of (k:=6) rfl (by decide) ?_|refine W1.g [0] rfl rfl ⟨ko,tU⟩ fun G=>?_|refine W2.g [0] rfl rfl ⟨ko,tU⟩ fun G=>?_|refine W3.g [0] rfl rfl ⟨ko,tU⟩ fun G=>?_|refine W4.g [0] rfl rfl ⟨ko,tU⟩ fun G=>?_|refine W5.g [0] rfl rfl ⟨ko,tU⟩ fun G=>?_|refine W6.g [0] rfl rfl ⟨ko,tU⟩ fun G=>?_|refine aj.rr H1 [0] rfl rfl ⟨ko,tU⟩ fun A1 m1 T1 G=>?_|refine aj.rr (H2 _ _ T1) [0] rfl rfl ⟨ko,tU⟩ fun A2 m2 T2 G=>?_|refine aj.rr (H5 _ _ T2) [0] rfl rfl ⟨ko,tU⟩ fun A5 m5 T5 G=>?_|(show F _ _ _;subst hF;refine aI.az fun F hF=>?_)|(show F _ _ _;subst hF)|refine ag aa rfl ?_)
 all_goals (try conv=>whnf)
 all_goals exact ⟨_,_,T5,_,aD,pl,rfl,.inl ⟨rfl,iE,rfl⟩,fun _=>rfl,_,rfl⟩
theorem Ut(hT:jY R A m p.l)(hw:p.is jn=true):CP [] 97 [.agg (kZ A m e p)] [.res R,.res (aF pl)] (kC R e pl p):=by
 unfold kC;have h0:=ma (e:=e) hT;have H1:=yV (e:=e) hT (jP hw);obtain ⟨t,ht⟩:∃t,t=br e p:=⟨_,rfl⟩;rw[<-ht];unfold br at ht;simp only[bh (s':=cd) hw (by decide),bh (s':=bU) hw (by decide),bh (s':=cC) hw (by decide),bh (s':=dH) hw (by decide),hw,Bool.false_eq_true,if_false,if_true] at ht;obtain ⟨q1,hq⟩:∃q,q=p.on:=⟨_,rfl⟩;rw[<-hq] at H1 ht;clear hq;have H2:=@fun A m h=>@RO R A m e q1 { Dc.zero with line:=(p.place e).1,aX:=(p.place e).2,kind:=5 } h rfl;have iE:=zO e { Dc.zero with line:=(p.place e).1,aX:=(p.place e).2,kind:=5 } q1;obtain ⟨b,hq⟩:∃q,q=dJ e { Dc.zero with line:=(p.place e).1,aX:=(p.place e).2,kind:=5 } q1:=⟨_,rfl⟩;rw[<-hq] at H2 ht iE;clear hq;have H5:=@fun A m h=>@lq R A m e b.2 [59] h;obtain ⟨q9,hq⟩:∃q,q=b.2.want e [59]:=⟨_,rfl⟩;rw[<-hq] at H5 ht;clear hq;subst ht;obtain ⟨y,hy⟩:∃y,y=p.place e:=⟨_,rfl⟩;rw[<-hy] at h0 H2;clear hy;have W1:=gq (e:=e) (s:=cd) hT;rw[bh (s':=cd) hw (by decide)] at W1;have W2:=gq (e:=e) (s:=bU) hT;rw[bh (s':=bU) hw (by decide)] at W2;have W3:=gq (e:=e) (s:=cC) hT;rw[bh (s':=cC) hw (by decide)] at W3;have W4:=gq (e:=e) (s:=dH) hT;rw[bh (s':=dH) hw (by decide)] at W4;have W5:=gq (e:=e) (s:=jn) hT;rw[hw] at W5;have W6:=gq (e:=e) (s:=fi) hT;rw[bh (s':=fi) hw (by decide)] at W6;refine ag aa rfl ?_;refine eX.of rfl rfl ?_;refine aI.az fun F hF=>?_;repeat' ((conv=>whnf);first|with_reducible apply af<;>intro _|refine aM.drawn aa rfl rfl ?_|with_reducible refine And.intro (aN.mk ⟨_,rfl,rfl⟩) ?_|refine h0.g [0] rfl rfl ⟨ko,tU⟩ fun G=>?_|refine bS.loop 7 (bS.step aa rfl ?_)|refine bS.step aa rfl ?_|refine aO.of (k:=1) rfl (by decide) ?_|refine aO.of (k:=2) rfl (by decide) ?_|refine aO.of (k:=3) rfl (by decide) ?_|refine aO.of (k:=4) rfl (by decide) ?_|refine aO.of (k:=5) rfl (by decide) ?_|refine aO.of (k:=6) rfl (by decide) ?_|refine W1.g [0] rfl rfl ⟨ko,tU⟩ fun G=>?_|refine W2.g [0] rfl rfl ⟨ko,tU⟩ fun G=>?_|refine W3.g [0] rfl rfl ⟨ko,tU⟩ fun G=>?_|refine W4.g [0] rfl rfl ⟨ko,tU⟩ fun G=>?_|refine W5.g [0] rfl rfl ⟨ko,tU⟩ fun G=>?_|refine W6.g [0] rfl rfl ⟨ko,tU⟩ fun G=>?_|refine aj.rr H1 [0] rfl rfl ⟨ko,tU⟩ fun A1 m1 T1 G=>?_|refine aj.rr (H2 _ _ T1) [0] rfl rfl ⟨ko,tU⟩ fun A2 m2 T2 G=>?_|refine aj.rr (H5 _ _ T2) [0] rfl rfl ⟨ko,tU⟩ fun A5 m5 T5 G=>?_|(show F _ _ _;subst hF;refine aI.az fun F hF=>?_)|(show F _ _ _;subst hF)|refine ag aa rfl ?_)
 all_goals (try conv=>whnf)
 all_goals exact ⟨_,_,T5,_,aD,pl,rfl,.inl ⟨rfl,iE,rfl⟩,fun _=>rfl,_,rfl⟩
theorem Uu(hT:jY R A m p.l)(hw:p.is fi=true):CP [] 97 [.agg (kZ A m e p)] [.res R,.res (aF pl)] (kC R e pl p):=by
 unfold kC;have h0:=ma (e:=e) hT;have H1:=yV (e:=e) hT (jP hw);obtain ⟨t,ht⟩:∃t,t=br e p:=⟨_,rfl⟩;rw[<-ht];unfold br at ht;simp only[bh (s':=cd) hw (by decide),bh (s':=bU) hw (by decide),bh (s':=cC) hw (by decide),bh (s':=dH) hw (by decide),bh (s':=jn) hw (by decide),hw,Bool.false_eq_true,if_false,if_true] at ht;unfold eS at ht;simp only[] at ht;obtain ⟨q1,hq⟩:∃q,q=p.on:=⟨_,rfl⟩;rw[<-hq] at H1 ht;clear hq;have H2:=@fun A m h=>@lq R A m e q1 cd h;obtain ⟨q2,hq⟩:∃q,q=q1.want e cd:=⟨_,rfl⟩;rw[<-hq] at H2 ht;clear hq;have H3:=@fun A m h=>@Ls R A m e q2 h;obtain ⟨b,hq⟩:∃q,q=iT e q2:=⟨_,rfl⟩;rw[<-hq] at H3 ht;clear hq;have H5:=@fun A m h=>@lq R A m e b.2 [59] h;obtain ⟨q9,hq⟩:∃q,q=b.2.want e [59]:=⟨_,rfl⟩;rw[<-hq] at H5 ht;clear hq;subst ht;obtain ⟨y,hy⟩:∃y,y=p.place e:=⟨_,rfl⟩;rw[<-hy] at h0 ⊢;clear hy;have W1:=gq (e:=e) (s:=cd) hT;rw[bh (s':=cd) hw (by decide)] at W1;have W2:=gq (e:=e) (s:=bU) hT;rw[bh (s':=bU) hw (by decide)] at W2;have W3:=gq (e:=e) (s:=cC) hT;rw[bh (s':=cC) hw (by decide)] at W3;have W4:=gq (e:=e) (s:=dH) hT;rw[bh (s':=dH) hw (by decide)] at W4;have W5:=gq (e:=e) (s:=jn) hT;rw[bh (s':=jn) hw (by decide)] at W5;have W6:=gq (e:=e) (s:=fi) hT;rw[hw] at W6;refine ag aa rfl ?_;refine eX.of rfl rfl ?_;refine aI.az fun F hF=>?_;repeat' ((conv=>whnf);first|with_reducible apply af<;>intro _|refine aM.drawn aa rfl rfl ?_|with_reducible refine And.intro (aN.mk ⟨_,rfl,rfl⟩) ?_|refine h0.g [0] rfl rfl ⟨ko,tU⟩ fun G=>?_|refine bS.loop 7 (bS.step aa rfl ?_)|refine bS.step aa rfl ?_|refine aO.of (k:=1) rfl (by decide) ?_|refine aO.of (k:=2) rfl (by decide) ?_|refine aO.of (k:=3) rfl (by decide) ?_|refine aO.of (k:=4) rfl (by decide) ?_|refine aO.of (k:=5) rfl (by decide) ?_|refine aO.of (k:=6) rfl (by decide) ?_|refine W1.g [0] rfl rfl ⟨ko,tU⟩ fun G=>?_|refine W2.g [0] rfl rfl ⟨ko,tU⟩ fun G=>?_|refine W3.g [0] rfl rfl ⟨ko,tU⟩ fun G=>?_|refine W4.g [0] rfl rfl ⟨ko,tU⟩ fun G=>?_|refine W5.g [0] rfl rfl ⟨ko,tU⟩ fun G=>?_|refine W6.g [0] rfl rfl ⟨ko,tU⟩ fun G=>?_|refine aj.rr H1 [0] rfl rfl ⟨ko,tU⟩ fun A1 m1 T1 G=>?_|refine aj.rr (H2 _ _ T1) [0] rfl rfl ⟨ko,tU⟩ fun A2 m2 T2 G=>?_|refine aj.rr (H3 _ _ T2) [0] rfl rfl ⟨ko,tU⟩ fun A3 m3 T3 G=>?_|refine aj.rr (H5 _ _ T3) [0] rfl rfl ⟨ko,tU⟩ fun A5 m5 T5 G=>?_|(show F _ _ _;subst hF;refine aI.az fun F hF=>?_)|(show F _ _ _;subst hF)|refine ag aa rfl ?_)
 all_goals (try conv=>whnf)
 all_goals exact ⟨_,_,T5,_,aD,pl,rfl,.inl ⟨rfl,rfl,rfl⟩,fun _=>rfl,_,rfl⟩
end
theorem Yb{R:aC}{A:Option Addr}{m:Nat}{e:Nat×Nat}{p:Pr}{pl:List (Value×List Bx)}(hT:jY R A m p.l):CP [] 97 [.agg (kZ A m e p)] [.res R,.res (aF pl)] (kC R e pl p):=by
 cases h1:p.is cd
 cases h2:p.is bU
 cases h3:p.is cC
 cases h4:p.is dH
 cases h5:p.is jn
 cases h6:p.is fi
 ·exact Uo hT ⟨h1,h2,h3,h4,h5,h6⟩
 ·exact Uu hT h6
 ·exact Ut hT h5
 ·exact Us hT h4
 ·exact Ur hT h3
 ·exact Uq hT h2
 ·exact Up hT h1
def RpP(s:List UInt8):AV->List ai->Prop:=fun v H'=>
 ((parse s).2.err=0/\∃rv ds pl,v=.tuple [.lit rv,.agg (qh kz.ok)]/\ds.map Dv.x=(parse s).1/\sy pl ds/\cS rv ds/\∃G,H'=.res (aF pl)::.res (aA n9 24 jd rv ds)::G) \/
 ((parse s).2.err≠0/\∃A,v=.tuple [.lit (.slice A 0 0),.agg (qh (parse s).2)]/\∃R0 R1 G,H'=.res R0::.res R1::G)
structure RpL where
 A:Option Addr
 m:Nat
 p:Pr
 pl:List (Value×List Bx)
 rv:Value
 ds:List Dv
theorem E9:∀(k:Nat) (l:List UInt8) (p:Pt) (out:List Tk),(jv k l p out).2.err=0->(jv k l p out).2=kz.ok
 | 0,_,_,_,_=>rfl
 | k+1,l,p,out,h=>by
   unfold jv at h ⊢;simp only[] at h ⊢;split
   ·rfl
   ·rename_i c r e;rw[e] at h;simp only[] at h;split at h
    ·rename_i hz;rw[if_pos hz];exact E9 k _ _ _ h
    ·rename_i hz;exact absurd h hz
theorem Sv{s:List UInt8}(h:(dP s).2.err=0):(dP s).2=kz.ok:=by
 unfold dP at h ⊢;split
 ·rename_i hl;rw[if_pos hl] at h;cases h
 ·rename_i hl;rw[if_neg hl] at h;exact E9 _ _ _ _ h
theorem RF{s:List UInt8}(he:(dP s).2.err=0):CP [] 34 [.lit (dw s)] [.res (aF []),.res (aA n9 24 jd aD [])] (fun v H'=>
 ((parse s).2.err=0/\∃rv ds pl,v=.tuple [.lit rv,.agg (qh kz.ok)]/\ds.map Dv.x=(parse s).1/\sy pl ds/\cS rv ds/\∃G,H'=.res (aF pl)::.res (aA n9 24 jd rv ds)::G) \/
 ((parse s).2.err≠0/\∃j,v=.tuple [.slice j 0 0 (.k 0),.agg (qh (parse s).2)]/\∃R0 R1 G,H'=.res R0::.res R1::G)):=by
 have hlen:s.length<=1000000:=by
  unfold dP at he;split at he
  ·cases he
  ·omega
 have WZ:=Fb s;have cE:=@Gw s s.length (Nat.le_refl _) (by omega);rw[show jz s s.length=kM s by unfold jz kM;rw[List.take_length]] at cE;obtain ⟨r,hr⟩:∃r,r=iF ((kM s).line,(kM s).aX) ((dP s).1.length+1) ⟨(dP s).1,none⟩ []:=⟨_,rfl⟩;have tv:parse s=match r.2.bad with
   | none=>(r.1,kz.ok)
   | some b=>([],⟨31,b.1,b.2⟩):=by rw[hr];unfold parse;rw[if_neg (by simpa using he)];rfl
 rw[tv];have eR:=Sv he;refine ag aa rfl ?_;refine eX.of rfl rfl ?_;refine aI.az fun F hF=>?_;repeat' ((conv=>whnf);first|with_reducible apply af<;>intro _|refine aM.drawn aa rfl rfl ?_|with_reducible refine And.intro (aN.mk ⟨_,rfl,rfl⟩) ?_|(refine aj.pre (eg.more (R:=aA pn 5 o8 aD []) rfl (bj.gO fw _)) ?_;refine R7.use [3] rfl rfl ⟨ko,tU⟩ ?_;rintro _ _ (⟨_,A,m,R,⟨hT,gA⟩,rfl,G,rfl⟩|⟨h,_⟩);refine ⟨[],?_⟩;rotate_left;exact absurd he h;rw[eR])|(refine aj.nY 3 rfl gA fun hm=>?_;refine cE ?_)|(show F _ _ _;subst hF;refine aI.az fun F hF=>?_)|(show F _ _ _;subst hF)|refine ag aa rfl ?_)
 obtain ⟨e,Th⟩:∃e,e=((kM s).line,(kM s).aX):=⟨_,rfl⟩;have e1:(kM s).line=e.1:=by rw[Th]
 have e2:(kM s).aX=e.2:=by rw[Th]
 rw[<-Th] at hr;rw[e1,e2];clear e1 e2 Th tv cE eR;obtain ⟨L,hL⟩:∃L,L=(dP s).1:=⟨_,rfl⟩;rw[<-hL] at hT hr WZ hm ⊢;clear hL gA;conv=>whnf
 refine aV aa rfl (fun x:RpL=>[(3,.ptr 2 0),(6,.lit x.rv),(7,.ptr 4 0)]) (fun x=>[.res (aF x.pl),.res (aA n9 24 jd x.rv x.ds),.cells [iA 0,iA 0,iA 0] 86,.res R,.cells (kZ x.A x.m e x.p) Yo])
  (fun x=>jY R x.A x.m x.p.l/\sy x.pl x.ds/\cS x.rv x.ds/\(x.p.bad=none->∃k,r=iF e k x.p (x.ds.map Dv.x)/\x.p.l.length<k)/\(x.p.bad≠none->r.2=x.p)/\x.ds.length+(x.p.l.length+(if x.p.bad=none then 1 else 0))<=600)
  (fun x=>2 * x.p.l.length+(if x.p.bad=none then 1 else 0)) ⟨A,m,⟨L,none⟩,[],aD,[]⟩ ⟨⟨hT,hm⟩,(fun y hy=>by cases hy),.inl ⟨rfl,rfl⟩,fun _=>⟨_,hr,Nat.lt_succ_self _⟩,fun h=>absurd rfl h,by show 0+(L.length+1)<=600;omega⟩ [0,1,2,3,5] ?_ ?_
 ·exact ⟨rfl,⟨rr,rr,rr,tU⟩,⟨ko,ko,⟨_,rfl,rfl⟩,ko,⟨_,rfl,rfl⟩,tU⟩⟩
 ·rintro ⟨A,m,p,pl,rv,ds⟩ ⟨h1,ha,hv,hk,FU,jg⟩;simp only[] at h1 ha hv hk FU jg;rcases p with ⟨l,_|b⟩
  ·by_cases tj:l=[]
   ·subst tj;obtain ⟨k,hk,_⟩:=hk rfl;rw[nE _ _ _ _ (.inl rfl)] at hk;subst hk;obtain ⟨A0,m0,rfl⟩:=tV hv;simp only[];repeat' ((conv=>whnf);first|with_reducible apply af<;>intro _|refine aM.drawn aa rfl rfl ?_|with_reducible refine And.intro (aN.mk ⟨_,rfl,rfl⟩) ?_|(show F _ _ _;subst hF;refine aI.az fun F hF=>?_)|(show F _ _ _;subst hF)|refine ag aa rfl ?_)
    all_goals (try conv=>whnf)
    all_goals exact .inl ⟨rfl,_,ds,pl,rfl,rfl,ha,hv,_,rfl⟩
   ·obtain ⟨k,hk,cT⟩:=hk rfl;obtain ⟨k,rfl⟩:∃k',k=k'+1:=⟨k - 1,by omega⟩;rw[zI _ _ _ _ tj rfl] at hk;have hc:=Yb (e:=e) (pl:=pl) h1;have z9:=Br e ⟨l,none⟩;have jg:ds.length+(l.length+1)<=600:=jg;unfold kC at hc;obtain ⟨⟨x,q⟩,hq⟩:∃z,z=br e ⟨l,none⟩:=⟨_,rfl⟩;rw[<-hq] at hk hc z9;clear hq;simp only[] at hk hc z9 cT jg;have Tq:0<l.length:=List.length_pos_iff.2 tj;have pj:2 * q.l.length+(if q.bad=none then 1 else 0)<2 * l.length+1:=by
     rcases z9 with h1|h1
     ·split<;>omega
     ·rw[if_neg h1.1];omega
    have yu:q.l.length+(if q.bad=none then 1 else 0)<l.length+1:=by
     rcases z9 with h1|h1
     ·split<;>omega
     ·rw[if_neg h1.1];omega
    have z8:q.bad=none->q.l.length<k:=fun h=>by
     rcases z9 with h1|h1
     ·omega
     ·exact absurd h h1.1
    have FU:q.bad≠none->r.2=q:=fun h=>by rw[hk,nE _ _ _ _ (.inr h)]
    have hgt:decide ((l.length:Int)>0)=true:=decide_eq_true (Int.ofNat_lt.2 Tq);rcases hv with ⟨rfl,rfl⟩|⟨A0,c0,rfl⟩
    ·simp only[];repeat' ((conv=>whnf);first|with_reducible apply af<;>intro _|refine aM.drawn aa rfl rfl ?_|with_reducible refine And.intro (aN.mk ⟨_,rfl,rfl⟩) ?_|(exfalso;rename_i hx;have:=dF1 hx;exact this (Int.ofNat_lt.2 Tq))|(refine hc.use [3,0] rfl rfl ⟨ko,ko,tU⟩ ?_;rintro _ _ ⟨A',m',T',x',v,eY,rfl,hb,yy,G,rfl⟩;obtain ⟨y,rfl,rfl,yo⟩:=hb.dv ha;refine ⟨[],?_⟩)|(refine dx.om (eH.iw aa Ar sH (by decide) wM (i:=1) (y:=y) (l:=([]:List Dv)) (v:=aD) (R1:=aB) (R':=fun v'=>aA n9 24 jd v' (([]:List Dv)++[y])) rfl rfl rfl rfl rfl rfl rfl du (fun v'=>ee) (by first|omega|(simp;done)) ?_);intro A2 m2)|(show F _ _ _;subst hF;refine aI.az fun F hF=>?_)|(show F _ _ _;subst hF)|refine ag aa rfl ?_)
     all_goals (try conv=>whnf)
     refine ⟨⟨A',m',q,eY,.slice (some A2) (([]:List Dv).length+1) m2,([]:List Dv)++[y]⟩,[0,1,2,3,4],⟨⟨T',yo,.inr ⟨A2,m2,by simp⟩,fun h=>⟨k,?_,z8 h⟩,FU,by show (([]:List Dv)++[y]).length+_<=600;simp only[List.length_append,List.length_cons,List.length_nil] at jg ⊢;omega⟩,pj⟩,rfl,⟨rr,rr,rr,tU⟩,⟨ko,ko,⟨_,rfl,rfl⟩,ko,⟨_,rfl,rfl⟩,tU⟩⟩;show r=iF e k q ((([]:List Dv)++[y]).map Dv.x)
     rw[List.map_append,hk,<-yy h];rfl
    ·simp only[];repeat' ((conv=>whnf);first|with_reducible apply af<;>intro _|refine aM.drawn aa rfl rfl ?_|with_reducible refine And.intro (aN.mk ⟨_,rfl,rfl⟩) ?_|(exfalso;rename_i hx;have:=dF1 hx;exact this (Int.ofNat_lt.2 Tq))|(refine hc.use [3,0] rfl rfl ⟨ko,ko,tU⟩ ?_;rintro _ _ ⟨A',m',T',x',v,eY,rfl,hb,yy,G,rfl⟩;obtain ⟨y,rfl,rfl,yo⟩:=hb.dv ha;refine ⟨[],?_⟩)|(refine al.om (eH.iw aa Ar sH (by decide) wM (i:=1) (y:=y) (l:=ds) (v:=.slice (some A0) ds.length c0) (R1:=aB) (R':=fun v'=>aA n9 24 jd v' (ds++[y])) rfl rfl rfl rfl rfl rfl rfl du (fun v'=>ee) (by first|omega|(simp;done)) ?_);intro A2 m2)|(show F _ _ _;subst hF;refine aI.az fun F hF=>?_)|(show F _ _ _;subst hF)|refine ag aa rfl ?_)
     all_goals (try conv=>whnf)
     refine ⟨⟨A',m',q,eY,.slice (some A2) (ds.length+1) m2,ds++[y]⟩,[0,1,2,3,4],⟨⟨T',yo,.inr ⟨A2,m2,by simp⟩,fun h=>⟨k,?_,z8 h⟩,FU,by show (ds++[y]).length+_<=600;simp only[List.length_append,List.length_cons,List.length_nil] at jg ⊢;omega⟩,pj⟩,rfl,⟨rr,rr,rr,tU⟩,⟨ko,ko,⟨_,rfl,rfl⟩,ko,⟨_,rfl,rfl⟩,tU⟩⟩;show r=iF e k q ((ds++[y]).map Dv.x)
     rw[List.map_append,hk,<-yy h];rfl
  ·have FU:=FU (by simp);rw[FU];obtain ⟨A0,m0,rfl⟩:=tV hv;simp only[];repeat' ((conv=>whnf);first|with_reducible apply af<;>intro _|refine aM.drawn aa rfl rfl ?_|with_reducible refine And.intro (aN.mk ⟨_,rfl,rfl⟩) ?_|(show F _ _ _;subst hF;refine aI.az fun F hF=>?_)|(show F _ _ _;subst hF)|refine ag aa rfl ?_)
   all_goals (try conv=>whnf)
   all_goals first
    | exact .inr ⟨by decide,_,rfl,_,_,_,rfl⟩
theorem RG{s:List UInt8}(he:(dP s).2.err≠0)(hl:s.length<=4611686018427387904):CP [] 34 [.lit (dw s)] [.res (aF []),.res (aA n9 24 jd aD [])] (fun v H'=>(parse s).2.err≠0/\∃j,v=.tuple [.slice j 0 0 (.k 0),.agg (qh (parse s).2)]/\∃R0 R1 G,H'=.res R0::.res R1::G):=by
 have tv:parse s=([],(dP s).2):=by unfold parse;rw[if_pos he]
 have cE:=@Gw s s.length (Nat.le_refl _) hl;rw[tv];refine ag aa rfl ?_;refine eX.of rfl rfl ?_;refine aI.az fun F hF=>?_;repeat' ((conv=>whnf);first|with_reducible apply af<;>intro _|refine aM.drawn aa rfl rfl ?_|with_reducible refine And.intro (aN.mk ⟨_,rfl,rfl⟩) ?_|(refine aj.pre (eg.more (R:=aA pn 5 o8 aD []) rfl (bj.gO fw _)) ?_;refine R7.use [3] rfl rfl ⟨ko,tU⟩ ?_;rintro _ _ (⟨h,_⟩|⟨_,R,(⟨rfl,G,rfl⟩|⟨rfl,G1,G2,e,G,rfl⟩)⟩);exact absurd h he;refine ⟨[],?_⟩;rotate_left;refine ⟨[3],?_⟩;rotate_left)|refine cE ?_|(refine bS.loop 1 (bS.step aa rfl ?_))|(show F _ _ _;subst hF;refine aI.az fun F hF=>?_)|(show F _ _ _;subst hF)|refine ag aa rfl ?_)
 all_goals (try conv=>whnf)
 all_goals first
  | exact ⟨he,_,rfl,_,_,_,rfl⟩
  | (exfalso;rename_i hx;have:=hx;simp at this;exact he this)
theorem UA{s:List UInt8}(hl:s.length<=4611686018427387904):CP [] 34 [.lit (dw s)] [.res (aF []),.res (aA n9 24 jd aD [])] (RpP s):=by
 by_cases he:(dP s).2.err=0
 ·refine aj.QG (RF he) ?_;rintro v H' (h|⟨h,j,rfl,h2⟩)
  ·exact .inl (.inl h)
  ·exact .inr ⟨j,_,rfl,fun a=>.inr ⟨h,_,rfl,h2⟩⟩
 ·refine aj.QG (RG he hl) ?_;rintro v H' ⟨h,j,rfl,h2⟩;exact .inr ⟨j,_,rfl,fun a=>.inr ⟨h,_,rfl,h2⟩⟩
def RpD(s:List UInt8)(v:AV)(H':List ai):Prop:=∃A m ds R,ds.map Dv.x=(parse s).1/\(qM R A m ds/\∀w S,R.at_ w S->ds.length<=m)/\v=.tuple [.lit (.slice A ds.length m),.agg (qh (parse s).2)]/\∃G,H'=.res R::G
theorem HW{R:aC}{A:Option Addr}{m:Nat}:qM R A m []:=⟨fun h=>absurd rfl h,fun y hy=>(by cases hy),by decide,fun y hy=>(by cases hy)⟩
theorem Cn{s:List UInt8}(h:(parse s).2.err≠0):(parse s).1=[]:=by
 unfold parse at h ⊢;split
 ·rfl
 ·rename_i h0;rw[if_neg h0] at h;simp only[] at h ⊢;split
  ·rename_i hb;rw[hb] at h;exact absurd rfl h
  ·rfl
theorem Lb{s:List UInt8}(h:(parse s).2.err=0):(parse s).2=kz.ok:=by
 unfold parse at h ⊢;split
 ·rename_i h0;rw[if_pos h0] at h;exact absurd h h0
 ·rename_i h0;rw[if_neg h0] at h;simp only[] at h ⊢;split
  ·rfl
  ·rename_i hb;rw[hb] at h;cases h
theorem RH{s:List UInt8}(hl:s.length<=4611686018427387904):CP [] 34 [.lit (dw s)] [] (RpD s):=by
 refine aj.post (aj.pre (eg.more (R:=aF []) rfl (bj.gO o1 _)) (aj.pre (eg.more (R:=aA n9 24 jd aD []) rfl (bj.gO fw _)) (UA hl))) ?_;rintro _ _ (⟨he,rv,ds,pl,rfl,hp,ha,hv,G,rfl⟩|⟨he,A,rfl,R0,R1,G,rfl⟩)
 ·have hlen:ds.length<=1000000/\∀y∈ds,y.x.boxes.length<=1000000:=by
   refine ⟨?_,fun y hy=>?_⟩
   ·have h:=Co s;rw[<-hp,List.length_map] at h;omega
   ·have h:=xy s y.x (by rw[<-hp];exact List.mem_map_of_mem hy);omega
  refine ⟨.res (vk rv ds pl)::.res aB::G,eg.same rfl ((bj.merge (i:=0) (j:=1) rfl rfl rfl D8).trans (.of_eq rfl)),?_⟩;rw[<-Lb he];rcases hv with ⟨rfl,rfl⟩|⟨A,m,rfl⟩
  ·exact ⟨none,0,[],_,hp,⟨HW,fun _ _ _=>Nat.le_refl _⟩,rfl,_,rfl⟩
  ·refine ⟨some A,m,ds,_,hp,⟨D7 ha hlen,fun w S h=>?_⟩,rfl,_,rfl⟩;obtain ⟨_,S2,h2⟩:=uo h;exact xq h2
 ·exact ⟨_,eg.same rfl (.refl _),A,0,[],R0,by rw[Cn he];rfl,⟨HW,fun _ _ _=>Nat.le_refl _⟩,rfl,_,rfl⟩
def fY(l:List Dv)(k:Nat)(s:List UInt8):Option Dv:=l.find? fun y=>decide (y.x.kind=k)&&decide (y.x.name=s)
def Ps:Option Dv->AV
 | some y=>.tuple [.agg (dA y.x y.v),bA true]
 | none=>.tuple [.agg (dA Dc.zero aD),bA false]
theorem qM.take{R:aC}{A:Option Addr}{m:Nat}{ds:List Dv}(h:qM R A m ds)(i:Nat):qM R A m (ds.take i) where
 rd:=fun aP=>by
  obtain ⟨a,e,bu⟩:=h.rd (fun h0=>aP (by rw[h0,List.take_nil]));refine ⟨a,e,fun w S hw k hk=>?_⟩;rw[List.length_take] at hk;rw[List.getElem_take];exact bu w S hw k (by omega)
 bx:=fun y hy=>h.bx y (List.mem_of_mem_take hy)
 len:=⟨by have:=h.len.1;rw[List.length_take];omega,fun y hy=>h.len.2 y (List.mem_of_mem_take hy)⟩
theorem vO{R:aC}{A:Option Addr}{m c:Nat}{ds:List Dv}{k:Nat}{s:List UInt8}(h:qM R A m ds):CP [] 100 [.lit (.slice A ds.length c),iA k,.lit (dw s)] [.res R] (lf (Ps (fY ds k s)) [.res R]):=by
 obtain ⟨o,ho⟩:∃o,o=fY ds k s:=⟨_,rfl⟩;rw[<-ho];unfold fY at ho;have hn:=h.len.1;refine ag aa rfl ?_;conv=>whnf
 refine aV aa rfl (fun i:Nat=>[(0,.lit (.slice A ds.length c)),(1,iA k),(2,.lit (dw s)),(6,.ptr 1 0),(8,iA (i:Nat))]) (fun _=>[.res R,.cells (dA Dc.zero aD) jd]) (fun i=>i<=ds.length/\o=(ds.drop i).find? fun y=>decide (y.x.kind=k)&&decide (y.x.name=s)) (fun i=>ds.length - i) 0 ⟨Nat.zero_le _,ho⟩ [0,1] ⟨rfl,⟨rr,rr,rr,rr,rr,tU⟩,⟨ko,⟨_,rfl,rfl⟩,tU⟩⟩ ?_;rintro i ⟨hi,he⟩;clear ho;by_cases an:i<ds.length
 ·obtain ⟨a,rfl,bu⟩:=h.rd.at an;have cQ:lg Tryz.prog R jd 24 a (fun y=>.agg (n9 y).toArray) ds:=bu;rw[List.drop_eq_getElem_cons an,List.find?_cons] at he;have k1:=lg.j8 (j:=0) (u:=.int .i64 (ds[i].x.kind:Int)) (ty2:=3) aa cQ ⟨_,rfl,rfl⟩ an ⟨_,rfl,rfl⟩ rfl;have k2:=lg.j8 (j:=1) (u:=dw ds[i].x.name) (ty2:=9) aa cQ ⟨_,rfl,rfl⟩ an ⟨_,rfl,rfl⟩ rfl;have k3:=fun w S hw=>bu w S hw i an;obtain ⟨y,hy⟩:∃y,y=ds[i]:=⟨_,rfl⟩;rw[<-hy] at he k1 k2;simp only[<-hy] at k3;repeat' ((conv=>whnf);first|with_reducible apply af<;>intro _|(exfalso;exact bT an (by assumption))|refine al.bC aa rfl rfl rfl rfl rfl an ?_|refine al.kN aa rfl rfl rfl rfl rfl rfl ?_|refine al.aR (i:=0) (v:=iA y.x.kind) rfl k1 rfl rfl ?_|refine al.aR (i:=0) (v:=.lit (dw y.x.name)) rfl k2 rfl rfl ?_|refine al.aR (i:=0) (v:=.agg (dA y.x y.v)) rfl k3 rfl rfl ?_|refine ag aa rfl ?_)
  all_goals (try conv=>whnf)
  ·rename_i hk ht;rw[NY] at hk;rw[o9] at ht;rw[hk,ht] at he;subst he;exact ⟨rfl,_,rfl⟩
  ·rename_i hk ht;rw[NY] at hk;rw[o9] at ht;rw[hk,ht] at he;exact ⟨i+1,[0,1],⟨⟨an,he⟩,Nat.sub_lt_sub_left an (Nat.lt_succ_self _)⟩,rfl,⟨rr,rr,rr,rr,⟨rfl,ax rfl (ak (by omega) (by omega))⟩,tU⟩,⟨ko,⟨_,rfl,rfl⟩,tU⟩⟩
  ·rename_i hk;rw[NY] at hk;rw[hk,Bool.false_and] at he;exact ⟨i+1,[0,1],⟨⟨an,he⟩,Nat.sub_lt_sub_left an (Nat.lt_succ_self _)⟩,rfl,⟨rr,rr,rr,rr,⟨rfl,ax rfl (ak (by omega) (by omega))⟩,tU⟩,⟨ko,⟨_,rfl,rfl⟩,tU⟩⟩
 ·obtain rfl:i=ds.length:=by omega
  rw[List.drop_length] at he;subst he;repeat' ((conv=>whnf);first|with_reducible apply af<;>intro _|(exfalso;exact cF an (by assumption))|refine ag aa rfl ?_)
  all_goals (try conv=>whnf)
  all_goals exact ⟨rfl,_,rfl⟩
def r9(l:List Dv)(k:Nat)(w:gw):Nat×Nat:=
 if w.any then (255,0)
 else if w.name=[] then (if 7<w.n then (0,33) else (2 ^ w.n,0))
 else match fY l k w.name with
  | none=>(0,21)
  | some y=>if 7<y.x.n then (0,33) else (2 ^ y.x.n,0)
theorem VN{n:Nat}(hn:n<=7){S:List Nat}{H:List ai}{K:AV->List ai->Prop}(k:K (iA (2 ^ n:Nat)) H):CP S 270 [iA n] H K:=by
 refine aj.pure ?_ (fun _=>rfl) (fun _=>rfl) k;clear k;have h:n=0\/n=1\/n=2\/n=3\/n=4\/n=5\/n=6\/n=7:=by omega
 rcases h with rfl|rfl|rfl|rfl|rfl|rfl|rfl|rfl;all_goals
  refine ag aa rfl ?_
  repeat' ((conv=>whnf);first|with_reducible apply af<;>intro _|refine bS.loop 9 (bS.step aa rfl ?_)|refine bS.step aa rfl ?_|refine ag aa rfl ?_)
  all_goals (try conv=>whnf)
  all_goals rfl
theorem MP{R:aC}{A:Option Addr}{m c:Nat}{ds:List Dv}{k:Nat}{w:gw}(h:qM R A m ds):CP [] 182 [.lit (.slice A ds.length c),iA k,.agg (wA w)] [.res R] (lf (.tuple [iA (r9 ds k w).1,iA (r9 ds k w).2]) [.res R]):=by
 have h1:=vO (c:=c) (k:=k) (s:=w.name) h;unfold r9;cases ha:w.any
 ·simp only[Bool.false_eq_true,if_false];by_cases hn:w.name=[]
  ·have hE:((⟨w.name.toArray⟩:ByteArray).toList==(⟨#[]⟩:ByteArray).toList)=true:=o9.trans (decide_eq_true hn);rw[if_pos hn];by_cases h7:7<w.n;all_goals
    first|rw[if_pos h7]|rw[if_neg h7]
    refine ag aa rfl ?_
    repeat' ((conv=>whnf);first|rw[ha]|rw[hE]|with_reducible apply af<;>intro _|(exfalso;rename_i hx;exact dF1 hx (Int.ofNat_lt.2 h7))|refine VN (by omega) ?_)
    all_goals (try conv=>whnf)
    all_goals first
     | exact ⟨rfl,_,rfl⟩
     | (exfalso;rename_i hx;exact h7 (Int.ofNat_lt.1 (dT1 hx)))
  ·have hE:((⟨w.name.toArray⟩:ByteArray).toList==(⟨#[]⟩:ByteArray).toList)=false:=o9.trans (decide_eq_false hn);rw[if_neg hn];cases hd:fY ds k w.name with
   | none=>
     rw[hd] at h1;refine ag aa rfl ?_;repeat' ((conv=>whnf);first|rw[ha]|rw[hE]|with_reducible apply af<;>intro _|refine h1.g [0] rfl rfl ⟨ko,tU⟩ fun G=>?_)
     all_goals (try conv=>whnf)
     all_goals exact ⟨rfl,_,rfl⟩
   | some y=>
     rw[hd] at h1;simp only[];by_cases h7:7<y.x.n;all_goals
      first|rw[if_pos h7]|rw[if_neg h7]
      refine ag aa rfl ?_
      repeat' ((conv=>whnf);first|rw[ha]|rw[hE]|with_reducible apply af<;>intro _|(exfalso;rename_i hx;exact dF1 hx (Int.ofNat_lt.2 h7))|refine h1.g [0] rfl rfl ⟨ko,tU⟩ fun G=>?_|refine VN (by omega) ?_)
      all_goals (try conv=>whnf)
      all_goals first
       | exact ⟨rfl,_,rfl⟩
       | (exfalso;rename_i hx;exact h7 (Int.ofNat_lt.1 (dT1 hx)))
 ·refine ag aa rfl ?_;repeat' ((conv=>whnf);first|rw[ha]|with_reducible apply af<;>intro _)
  all_goals (try conv=>whnf)
  all_goals exact ⟨rfl,_,rfl⟩
