/- Part of the proof: Rf10e Rf11 Rf11b Rf11c Rf11d. Conditions: as each states. -/
import Derived.Test.YtmbdghclhpboaaaGreatPq39
set_option linter.all false
set_option maxRecDepth 100000
set_option maxHeartbeats 8000000
namespace Go.Proofs.YtmbdghclhpboaaaGreat
open Ev
def V3(s:List UInt8):AV->List ai->Prop:=fun v H'=>((dP s).2.err=0/\Hf s v H')\/((dP s).2.err≠0/\∃R,((v=.tuple [.lit aD,.agg (qh (dP s).2)]/\∃G,H'=.res R::G)\/(v=.tuple [.slice 3 0 0 (.k 0),.agg (qh (dP s).2)]/\∃G1 G2 e G,H'=.res R::G1::G2::.cells [] e::G)))
structure RtL where
 b:Nat
 out:List Tk
 v:Value
theorem R7{s:List UInt8}:CP [] 95 [.lit (dw s)] [.res (aA pn 5 o8 aD [])] (V3 s):=by
 by_cases hl:512<s.length
 ·have e:dP s=([],⟨2,1,1⟩):=by unfold dP;rw[if_pos hl]
  unfold V3;rw[e];refine ag aa rfl ?_;repeat' ((conv=>whnf);first|with_reducible apply af<;>intro _|(exfalso;rename_i hx;have:=dF1 hx;exact this (Int.ofNat_lt.2 hl))|refine ag aa rfl ?_)
  all_goals (try conv=>whnf)
  all_goals exact .inr ⟨by decide,_,.inl ⟨rfl,_,rfl⟩⟩
 ·have e:dP s=jW s Pt.zero []:=by unfold dP;rw[if_neg hl];rfl
  unfold V3 Hf;rw[e];obtain ⟨TT,Iu⟩:∃TT,TT=jW s Pt.zero []:=⟨_,rfl⟩;rw[<-Iu];clear e;have Eh:=@RT s 0 (Nat.zero_le _) (by omega);refine ag aa rfl ?_;refine eX.of rfl rfl ?_;refine aI.az fun F hF=>?_;repeat' ((conv=>whnf);first|with_reducible apply af<;>intro _|refine Eh ?_|(exfalso;rename_i hx;have:=dT1 hx;exact hl (Int.ofNat_lt.1 this))|(show F _ _ _;subst hF;refine aI.az fun F hF=>?_)|(show F _ _ _;subst hF)|refine ag aa rfl ?_)
  refine aV aa rfl (fun x:RtL=>[(0,.lit (dw s)),(3,.ptr 1 0),(4,.lit x.v),(5,iA (x.b+eM (s.drop x.b):Nat))]) (fun x=>[.res (aA pn 5 o8 x.v x.out),.cells [iA 0,iA 0,iA 0] 86])
   (fun x=>x.b<=s.length/\jW (s.drop x.b) (jz s x.b) x.out=TT/\cS x.v x.out/\x.out.length<=x.b) (fun x=>s.length - x.b) ⟨0,[],aD⟩ ⟨Nat.zero_le _,Iu.symm,.inl ⟨rfl,rfl⟩,Nat.le_refl _⟩ [0,1] ?_ ?_
  ·exact ⟨rfl,⟨rr,rr,rr,rr,tU⟩,⟨ko,⟨_,rfl,rfl⟩,tU⟩⟩
  ·rintro ⟨b,out,v⟩ ⟨h1,h3,h4,h5⟩;simp only[] at h1 h3 h4 h5;simp only[];obtain ⟨l,tm⟩:∃l,l=s.drop b:=⟨_,rfl⟩;have oS:l.length=s.length - b:=by rw[tm,List.length_drop]
   have hk:=EX l;rw[<-tm] at h3 ⊢;obtain ⟨a,ha⟩:∃a,a=b+eM l:=⟨_,rfl⟩;have hq:(jz s b).jZ (l.take (eM l))=jz s a:=by rw[ha,yQ,tm]
   have hd:s.drop a=l.drop (eM l):=by rw[ha,tm,List.drop_drop]
   rw[<-ha];have Zv:a<=s.length:=by omega
   have cE:=@Gw s a Zv (by omega);by_cases hend:a=s.length
   ·have hT:TT=(out,kz.ok):=by rw[<-h3];exact Dd l _ out (by rw[<-hd,hend,List.drop_length])
    subst hT;obtain ⟨A,m,rfl⟩:=tV h4;clear hd hq h3 Eh Iu cE tm;refine aI.az fun F2 cf=>?_;repeat' ((conv=>whnf);first|with_reducible apply af<;>intro _|(exfalso;rename_i hx;exact absurd (Int.ofNat_lt.1 (dT1 hx):a<s.length) (by omega))|(show F2 _ _ _;subst cf;refine aI.az fun F2 cf=>?_)|(show F2 _ _ _;subst cf)|(show F _ _ _;subst hF;refine aI.az fun F hF=>?_)|(show F _ _ _;subst hF)|refine ag aa rfl ?_)
    all_goals (try conv=>whnf)
    ·exact .inl ⟨rfl,A,m,_,⟨JZ h4 rfl (by show out.length<=_;omega),fun _ _ h=>xq h⟩,rfl,_,rfl⟩
   ·have an:a<s.length:=by omega
    have hn:=UM an (by omega);have aP:s.drop a≠[]:=fun h=>by have:=congrArg List.length h;rw[List.length_drop] at this;simp at this;omega
    unfold O0 at hn;obtain ⟨m,hm⟩:∃m,m=s.drop a:=⟨_,rfl⟩;rw[<-hm] at hn aP;have tn:m.length=s.length - a:=by rw[hm,List.length_drop]
    by_cases he:(cH m).2=0
    ·have hT:=zT l m (jz s b) out (by rw[hm,hd]) aP he;rw[h3,hq] at hT;obtain ⟨c,r,w5⟩:∃c r,m=c::r:=by
      cases m with
      | nil=>exact absurd rfl aP
      | cons c r=>exact ⟨c,r,rfl⟩
     obtain ⟨Qp,xe⟩:=oY c r (by rw[<-w5];exact he);rw[<-w5] at Qp xe;have IM:(cH m).1.text.length<=m.length:=by
      have:=congrArg List.length xe;rw[List.length_take] at this;omega
     have NS:(jz s a).jZ (m.take (cH m).1.text.length)=jz s (a+(cH m).1.text.length):=by rw[yQ,hm]
     rw[NS] at hT;obtain ⟨t,ht⟩:∃t,t=cH m:=⟨_,rfl⟩;rw[<-ht] at hn he Qp IM hT;rw[he] at hn;obtain ⟨y,hy⟩:∃y:Tk,y={ t.1 with line:=(jz s a).line,aX:=(jz s a).aX }:=⟨_,rfl⟩;have Aa:=@RT s (a+t.1.text.length) (by omega) (by omega);have IN:IntKind.i64.wrap ((a:Int)+(((⟨t.1.text.toArray⟩:ByteArray).size:Nat):Int))=((a+t.1.text.length:Nat):Int):=ak (n:=(a:Int)+(t.1.text.length:Int)) (by omega) (by omega);clear hd hq ht w5 xe h3 Eh Iu NS;rcases h4 with ⟨rfl,rfl⟩|⟨A0,c0,rfl⟩
     ·refine aI.az fun F2 cf=>?_;repeat' ((conv=>whnf);first|with_reducible apply af<;>intro _|(exfalso;rename_i hx;have:=dF1 hx;exact this (Int.ofNat_lt.2 an))|(refine hn.use [] rfl rfl trivial ?_;rintro _ _ ⟨t0,rfl,XG⟩;obtain rfl:=XG rfl;refine ⟨[],?_⟩)|refine cE ?_|(refine dx.om (eH.iw aa Au uc (by decide) xX (i:=0) (y:=y) (l:=([]:List Tk)) (v:=aD) (R1:=aB) (R':=fun v'=>aA pn 5 o8 v' (([]:List Tk)++[y])) rfl rfl rfl rfl rfl (by rw[hy];rfl) rfl du (fun v'=>ee) (by first|omega|(simp;done)) ?_);intro A2 m2)|(rw[IN];refine Aa ?_)|(show F2 _ _ _;subst cf;refine aI.az fun F2 cf=>?_)|(show F2 _ _ _;subst cf)|(show F _ _ _;subst hF;refine aI.az fun F hF=>?_)|(show F _ _ _;subst hF)|refine ag aa rfl ?_)
      all_goals (try conv=>whnf)
      exact ⟨⟨a+t.1.text.length,([]:List Tk)++[y],.slice (some A2) (([]:List Tk).length+1) m2⟩,[0,1],⟨⟨by show a+_<=_;omega,by show jW (s.drop (a+t.1.text.length)) _ _=TT;rw[hT,<-List.drop_drop,<-hm,hy],.inr ⟨A2,m2,by simp⟩,by show (([]:List Tk)++[_]).length<=a+_;simp only[List.length_append,List.length_cons,List.length_nil] at h5 ⊢;omega⟩,by show s.length - (a+_)<s.length - b;omega⟩,rfl,⟨rr,rr,rr,rr,tU⟩,⟨⟨_,rfl,kp⟩,⟨_,rfl,rfl⟩,tU⟩⟩
     ·refine aI.az fun F2 cf=>?_;repeat' ((conv=>whnf);first|with_reducible apply af<;>intro _|(exfalso;rename_i hx;have:=dF1 hx;exact this (Int.ofNat_lt.2 an))|(refine hn.use [] rfl rfl trivial ?_;rintro _ _ ⟨t0,rfl,XG⟩;obtain rfl:=XG rfl;refine ⟨[],?_⟩)|refine cE ?_|(refine al.om (eH.iw aa Au uc (by decide) xX (i:=0) (y:=y) (l:=out) (v:=.slice (some A0) out.length c0) (R1:=aB) (R':=fun v'=>aA pn 5 o8 v' (out++[y])) rfl rfl rfl rfl rfl (by rw[hy];rfl) rfl du (fun v'=>ee) (by first|omega|(simp;done)) ?_);intro A2 m2)|(rw[IN];refine Aa ?_)|(show F2 _ _ _;subst cf;refine aI.az fun F2 cf=>?_)|(show F2 _ _ _;subst cf)|(show F _ _ _;subst hF;refine aI.az fun F hF=>?_)|(show F _ _ _;subst hF)|refine ag aa rfl ?_)
      all_goals (try conv=>whnf)
      exact ⟨⟨a+t.1.text.length,out++[y],.slice (some A2) (out.length+1) m2⟩,[0,1],⟨⟨by show a+_<=_;omega,by show jW (s.drop (a+t.1.text.length)) _ _=TT;rw[hT,<-List.drop_drop,<-hm,hy],.inr ⟨A2,m2,by simp⟩,by show (out++[_]).length<=a+_;simp only[List.length_append,List.length_cons,List.length_nil] at h5 ⊢;omega⟩,by show s.length - (a+_)<s.length - b;omega⟩,rfl,⟨rr,rr,rr,rr,tU⟩,⟨⟨_,rfl,kp⟩,⟨_,rfl,rfl⟩,tU⟩⟩
    ·have hT:=Db l m (jz s b) out (by rw[hm,hd]) aP he;rw[h3,hq] at hT;subst hT;obtain ⟨t,ht⟩:∃t,t=cH m:=⟨_,rfl⟩;rw[<-ht] at hn he ⊢;clear hd hq ht Eh Iu;refine aI.az fun F2 cf=>?_;repeat' ((conv=>whnf);first|with_reducible apply af<;>intro _|(exfalso;rename_i hx;have:=dF1 hx;exact this (Int.ofNat_lt.2 an))|(refine hn.use [] rfl rfl trivial ?_;rintro _ _ ⟨t0,rfl,_⟩;refine ⟨[],?_⟩)|refine cE ?_|(show F2 _ _ _;subst cf;refine aI.az fun F2 cf=>?_)|(show F2 _ _ _;subst cf)|(show F _ _ _;subst hF;refine aI.az fun F hF=>?_)|(show F _ _ _;subst hF)|refine ag aa rfl ?_)
     all_goals (try conv=>whnf)
     all_goals first
      | exact .inr ⟨he,_,.inr ⟨rfl,_,_,_,_,rfl⟩⟩
      | (exfalso;rename_i hx;have:=hx;simp at this;exact he this)
open Ev Go.RowKit
abbrev Yo:TypeId:=170
def kZ(A:Option Addr)(m:Nat)(e:Nat×Nat)(p:Pr):List AV:=[.lit (.slice A p.l.length m),iA e.1,iA e.2,iA (rT p.bad).1,iA (rT p.bad).2.1,iA (rT p.bad).2.2]
structure jY(R:aC)(A:Option Addr)(m:Nat)(L:List Tk):Prop where
 r:iu R A L
 m:L.length<=m
def Hd(R:aC)(e:Nat×Nat)(p:Pr)(f:List AV->AV):AV->List ai->Prop:=fun v H'=>∃A m,jY R A m p.l/\v=f (kZ A m e p)/\∃G,H'=.res R::G
theorem aj.rr{S:List Nat}{g:Nat}{args0 args:List AV}{H0 H:List ai}{R:aC}{e:Nat×Nat}{p:Pr}{f:List AV->AV}{K:AV->List ai->Prop}(c:oJ Tryz.prog g args0 H0 (Hd R e p f))(ρ:List Nat)(iD:args=AV.eN (eB ρ) args0)(lV:(eG ρ&&Nat.ble H0.length aY&&ρ.all (fun i=>!nZ S i))=true)(pT:nT (eB ρ) H ρ H0)
  (hK:∀A m,jY R A m p.l->∀G,Dg ρ [] H (.res R::G) (f (kZ A m e p)) K):aj Tryz.prog S g args H K:=c.use ρ iD lV pT (by
 rintro _ _ ⟨A,m,h,rfl,G,rfl⟩;exact ⟨[],hK A m h G⟩)
theorem jY.tail{R:aC}{A:Option Addr}{l:List Tk}{m:Nat}(h:jY R A m l)(aP:l≠[]):jY R (oN A m 1 5) (m - 1) l.tail:=by
 obtain ⟨⟨hl,hn⟩,hm⟩:=h;refine ⟨⟨fun ht=>?_,by simp;omega⟩,by simp;omega⟩;obtain ⟨a,rfl,ha⟩:=hl aP;have h2:0<l.tail.length:=List.length_pos_iff.2 ht;have KJ:m≠1:=by simp at h2;omega
 refine ⟨a.add (1 * 5),by unfold oN;rw[if_neg KJ];rfl,fun w S hw=>?_⟩;obtain ⟨b,off,rfl,mo⟩:=ha w S hw;refine ⟨b,off+5,by rw[Addr.add_mid],fun j u hj=>?_⟩;obtain ⟨t,r,rfl⟩:∃t r,l=t::r:=by
  cases l with
  | nil=>exact absurd rfl aP
  | cons t r=>exact ⟨t,r,rfl⟩
 have:=mo (5+j) u (by
  rw[List.flatMap_cons,List.getElem?_append_right (by simp[pn])];simpa [pn] using hj)
 rwa [Nat.add_assoc]
section
variable{R:aC}{A:Option Addr}{m:Nat}{e:Nat×Nat}{p:Pr}
theorem gq{s:List UInt8}(hT:jY R A m p.l):CP [] 170 [.agg (kZ A m e p),.lit (dw s)] [.res R] (lf (bA (p.is s)) [.res R]):=by
 obtain ⟨hT,hm⟩:=hT;obtain ⟨l,bad⟩:=p;rcases bad with _|b;rcases l with _|⟨t,l⟩
 ·refine ag aa rfl ?_;repeat' ((conv=>whnf);first|with_reducible apply af<;>intro _  | refine ag aa rfl ?_)
  all_goals (try conv=>whnf)
  all_goals exact ⟨rfl,_,rfl⟩
 ·obtain ⟨a,rfl,_⟩:=hT.rd.at (k:=0) (by simp);have an:0<(t::l).length:=Nat.zero_lt_succ _;have NO:=hT.one (i:=0) (j:=1) (u:=dw t.text) E3 an rfl;rw[show (⟨t::l,none⟩:Pr).is s=decide (t.text=s) from rfl];refine ag aa rfl ?_;repeat' ((conv=>whnf);first|with_reducible apply af<;>intro _|refine al.Gd (k:=0) aa rfl rfl rfl rfl rfl rfl an ?_|refine al.kN aa rfl rfl rfl rfl rfl rfl ?_|refine al.aR (i:=0) (v:=.lit (dw t.text)) rfl NO rfl rfl ?_|refine ag aa rfl ?_)
  all_goals (try conv=>whnf)
  all_goals first
   | exact ⟨rfl,_,rfl⟩
   | (exfalso;rename_i hx;have:=dF1 hx;exact this (Int.ofNat_lt.2 an))
   | (rename_i hx;exact ⟨congrArg bA (o9.symm.trans hx).symm,_,rfl⟩)
 ·refine ag aa rfl ?_;repeat' ((conv=>whnf);first|with_reducible apply af<;>intro _  | refine ag aa rfl ?_)
  all_goals (try conv=>whnf)
  all_goals exact ⟨rfl,_,rfl⟩
theorem ma(hT:jY R A m p.l):CP [] 168 [.agg (kZ A m e p)] [.res R] (lf (.agg [iA (p.place e).1,iA (p.place e).2]) [.res R]):=by
 obtain ⟨hT,hm⟩:=hT;obtain ⟨l,bad⟩:=p;rcases l with _|⟨t,l⟩
 ·refine ag aa rfl ?_;repeat' ((conv=>whnf);first|with_reducible apply af<;>intro _  | refine ag aa rfl ?_)
  all_goals (try conv=>whnf)
  all_goals exact ⟨rfl,_,rfl⟩
 ·obtain ⟨a,rfl,_⟩:=hT.rd.at (k:=0) (by simp);have an:0<(t::l).length:=Nat.zero_lt_succ _;refine ag aa rfl ?_;repeat' ((conv=>whnf);first|with_reducible apply af<;>intro _|refine al.Gd (k:=0) aa rfl rfl rfl rfl rfl rfl an ?_|refine al.kN aa rfl rfl rfl rfl rfl rfl ?_|refine al.aR (i:=0) (v:=.agg [iA t.line,iA t.aX]) rfl (hT.pos (i:=0) an) rfl rfl ?_|refine ag aa rfl ?_)
  all_goals (try conv=>whnf)
  all_goals first
   | exact ⟨rfl,_,rfl⟩
   | (exfalso;rename_i hx;have:=dF1 hx;exact this (Int.ofNat_lt.2 an))
theorem Gy(hT:jY R A m p.l):CP [] 171 [.agg (kZ A m e p)] [.res R] (Hd R e (p.ba e) .agg):=by
 refine aj.mono (K:=lf (.agg (kZ A m e (p.ba e))) [.res R]) ?_ (by
  rintro _ _ ⟨rfl,G,rfl⟩;refine ⟨A,m,?_,rfl,_,rfl⟩;rw[uL];exact hT)
 obtain ⟨hT,hm⟩:=hT;obtain ⟨l,bad⟩:=p;rcases bad with _|b;rcases l with _|⟨t,l⟩
 ·refine ag aa rfl ?_;repeat' ((conv=>whnf);first|with_reducible apply af<;>intro _  | refine ag aa rfl ?_)
  all_goals (try conv=>whnf)
  all_goals exact ⟨rfl,_,rfl⟩
 ·obtain ⟨a,rfl,_⟩:=hT.rd.at (k:=0) (by simp);have an:0<(t::l).length:=Nat.zero_lt_succ _;refine ag aa rfl ?_;repeat' ((conv=>whnf);first|with_reducible apply af<;>intro _|refine al.Gd (k:=0) aa rfl rfl rfl rfl rfl rfl an ?_|refine al.kN aa rfl rfl rfl rfl rfl rfl ?_|refine al.aR (i:=0) (v:=.agg [iA t.line,iA t.aX]) rfl (hT.pos (i:=0) an) rfl rfl ?_|refine ag aa rfl ?_)
  all_goals (try conv=>whnf)
  all_goals first
   | exact ⟨rfl,_,rfl⟩
   | (exfalso;rename_i hx;have:=dF1 hx;exact this (Int.ofNat_lt.2 an))
 ·refine ag aa rfl ?_;repeat' ((conv=>whnf);first|with_reducible apply af<;>intro _  | refine ag aa rfl ?_)
  all_goals (try conv=>whnf)
  all_goals exact ⟨rfl,_,rfl⟩
theorem yV(hT:jY R A m p.l)(aP:p.l≠[]):CP [] 172 [.agg (kZ A m e p)] [.res R] (Hd R e p.on .agg):=by
 have an:1<=p.l.length:=List.length_pos_iff.2 aP;refine ag aa rfl ?_;repeat' ((conv=>whnf);first|with_reducible apply af<;>intro _|refine al.VP (j:=1) aa rfl rfl rfl rfl rfl an ?_|refine ag aa rfl ?_)
 all_goals (try conv=>whnf)
 refine ⟨_,_,hT.tail aP,?_,_,rfl⟩;unfold kZ;rw[show p.on.l.length=p.l.length - 1 by unfold Pr.on;simp];rfl
theorem lq{s:List UInt8}(hT:jY R A m p.l):CP [] 174 [.agg (kZ A m e p),.lit (dw s)] [.res R] (Hd R e (p.want e s) .agg):=by
 have h1:=gq (e:=e) (s:=s) hT;unfold Pr.want;cases hb:p.is s
 all_goals rw[hb] at h1
 ·have h2:=Gy (e:=e) hT;refine ag aa rfl ?_;repeat' ((conv=>whnf);first|with_reducible apply af<;>intro _|refine h1.g [0] rfl rfl ⟨ko,tU⟩ fun G=>?_|refine aj.rr h2 [0] rfl rfl ⟨ko,tU⟩ fun A' m' gz G=>?_|refine ag aa rfl ?_)
  all_goals (try conv=>whnf)
  all_goals exact ⟨_,_,gz,rfl,_,rfl⟩
 ·have h2:=yV (e:=e) hT (jP hb);refine ag aa rfl ?_;repeat' ((conv=>whnf);first|with_reducible apply af<;>intro _|refine h1.g [0] rfl rfl ⟨ko,tU⟩ fun G=>?_|refine aj.rr h2 [0] rfl rfl ⟨ko,tU⟩ fun A' m' gz G=>?_|refine ag aa rfl ?_)
  all_goals (try conv=>whnf)
  all_goals exact ⟨_,_,gz,rfl,_,rfl⟩
end
section
variable{R:aC}{A:Option Addr}{m:Nat}{e:Nat×Nat}{p:Pr}
theorem vS{k:Nat}(hT:jY R A m p.l):CP [] 173 [.agg (kZ A m e p),iA k] [.res R] (Hd R e (p.take e k).2 fun a=>.tuple [.agg a,.agg (E8 (p.take e k).1)]):=by
 have hw:=Gy (e:=e) hT;obtain ⟨l,bad⟩:=p;rcases bad with _|b;rcases l with _|⟨t,l⟩
 ·refine ag aa rfl ?_;repeat' ((conv=>whnf);first|with_reducible apply af<;>intro _|refine aM.drawn aa rfl rfl ?_|with_reducible refine And.intro (aN.mk ⟨_,rfl,rfl⟩) ?_|refine aj.rr hw [0] rfl rfl ⟨ko,tU⟩ fun A' m' gz G=>?_|refine ag aa rfl ?_)
  all_goals (try conv=>whnf)
  all_goals exact ⟨_,_,gz,rfl,_,rfl⟩
 ·obtain ⟨a,rfl,bu⟩:=hT.r.rd.at (k:=0) (by simp);have an:0<(t::l).length:=Nat.zero_lt_succ _;have NO:=hT.r.one (i:=0) (j:=0) (u:=.int .i64 (t.kind:Int)) yC an rfl;have bu:=fun w S hw=>bu w S hw 0 an;have ho:=yV (e:=e) hT (by simp);by_cases hk:t.kind=k
  ·have e1:(⟨t::l,none⟩:Pr).take e k=(t,(⟨t::l,none⟩:Pr).on):=by unfold Pr.take Pr.kind;simp[hk]
   rw[e1];refine ag aa rfl ?_;repeat' ((conv=>whnf);first|with_reducible apply af<;>intro _|refine aM.drawn aa rfl rfl ?_|with_reducible refine And.intro (aN.mk ⟨_,rfl,rfl⟩) ?_|(exfalso;rename_i hx;have:=dF1 hx;exact this (Int.ofNat_lt.2 an))|(exfalso;rename_i hx;exact ne_of_beq_false hx (congrArg Int.ofNat hk))|refine al.Gd (k:=0) aa rfl rfl rfl rfl rfl rfl an ?_|refine al.kN aa rfl rfl rfl rfl rfl rfl ?_|refine al.aR (i:=0) (v:=iA t.kind) rfl NO rfl rfl ?_|refine al.aR (i:=0) (v:=.agg (E8 t)) rfl bu rfl rfl ?_|refine ky.mk ?_ ?_|refine aj.rr ho [0] rfl rfl ⟨ko,tU⟩ fun A' m' gz G=>?_|refine ag aa rfl ?_)
   all_goals (try conv=>whnf)
   all_goals first
    | exact ⟨_,_,gz,rfl,_,rfl⟩
    | trace_state
  ·have e1:(⟨t::l,none⟩:Pr).take e k=(Tk.none,(⟨t::l,none⟩:Pr).ba e):=by unfold Pr.take Pr.kind;simp[hk]
   rw[e1];refine ag aa rfl ?_;repeat' ((conv=>whnf);first|with_reducible apply af<;>intro _|refine aM.drawn aa rfl rfl ?_|with_reducible refine And.intro (aN.mk ⟨_,rfl,rfl⟩) ?_|(exfalso;rename_i hx;have:=dF1 hx;exact this (Int.ofNat_lt.2 an))|(exfalso;rename_i hx;exact hk (Int.ofNat.inj (eq_of_beq hx)))|refine al.Gd (k:=0) aa rfl rfl rfl rfl rfl rfl an ?_|refine al.kN aa rfl rfl rfl rfl rfl rfl ?_|refine al.aR (i:=0) (v:=iA t.kind) rfl NO rfl rfl ?_|refine aj.rr hw [0] rfl rfl ⟨ko,tU⟩ fun A' m' gz G=>?_|refine ag aa rfl ?_)
   all_goals (try conv=>whnf)
   all_goals first
    | exact ⟨_,_,gz,rfl,_,rfl⟩
    | trace_state
 ·refine ag aa rfl ?_;repeat' ((conv=>whnf);first|with_reducible apply af<;>intro _|refine aM.drawn aa rfl rfl ?_|with_reducible refine And.intro (aN.mk ⟨_,rfl,rfl⟩) ?_|refine aj.rr hw [0] rfl rfl ⟨ko,tU⟩ fun A' m' gz G=>?_|refine ag aa rfl ?_)
  all_goals (try conv=>whnf)
  all_goals exact ⟨_,_,gz,rfl,_,rfl⟩
def Ku(p:Pr):Bool:=match p.l with
 | t::_=>decide (t.kind=1)
 | []=>false
theorem E5{p:Pr}(h:p.bad≠none)(e:Nat×Nat)(k:Nat):p.take e k=(Tk.none,p):=by
 unfold Pr.take;rw[uh h,if_neg (by simp),vc h]
theorem Vi(e:Nat×Nat)(p:Pr):iT e p=if p.is o7 then (⟨true,[],0,(p.place e).1,(p.place e).2⟩,p.on) else if Ku p then (⟨false,(p.take e 1).1.text,0,(p.place e).1,(p.place e).2⟩,(p.take e 1).2) else (⟨false,[],(p.take e 3).1.n,(p.place e).1,(p.place e).2⟩,(p.take e 3).2):=by
 unfold iT gN fW;simp only[];by_cases h:p.bad=none
 ·have:p.kind 1=Ku p:=by unfold Pr.kind Ku;rw[h];rfl
  rw[this]
 ·rw[uh h,E5 h,E5 h];cases p.is o7<;>cases Ku p<;>rfl
theorem SZ{p:Pr}(an:0<p.l.length):Ku p=decide (p.l[0].kind=1):=by
 obtain ⟨l,bad⟩:=p;cases l with
 | nil=>simp at an
 | cons t l=>rfl
theorem Pz{p:Pr}(h:¬0<p.l.length):Ku p=false:=by
 obtain ⟨l,bad⟩:=p;cases l with
 | nil=>rfl
 | cons t l=>simp at h
theorem Ls(hT:jY R A m p.l):CP [] 176 [.agg (kZ A m e p),.lit (dw o7),bA true] [.res R] (Hd R e (iT e p).2 fun a=>.tuple [.agg a,.agg (wA (iT e p).1)]):=by
 have h1:=ma (e:=e) hT;have h2:=gq (e:=e) (s:=o7) hT;have h3:=vS (e:=e) (k:=1) hT;have h4:=vS (e:=e) (k:=3) hT;have h5:=fun hb=>yV (e:=e) hT (jP (s:=o7) hb);rw[Vi];have Tj:=@SZ p;have w6:=@Pz p;obtain ⟨y,hy⟩:∃y,y=p.place e:=⟨_,rfl⟩;obtain ⟨a,ha⟩:∃a,a=p.take e 1:=⟨_,rfl⟩;obtain ⟨b,hb⟩:∃b,b=p.take e 3:=⟨_,rfl⟩;obtain ⟨x,hx⟩:∃x,x=p.is o7:=⟨_,rfl⟩;obtain ⟨f,hf⟩:∃f,f=Ku p:=⟨_,rfl⟩;rw[<-hy] at h1 ⊢;rw[<-ha] at h3 ⊢;rw[<-hb] at h4 ⊢;rw[<-hx] at h2 h5 ⊢;rw[<-hf] at Tj w6 ⊢;clear hx hf hy ha hb;by_cases an:0<p.l.length
 ·obtain ⟨a0,rfl,_⟩:=hT.r.rd.at an;have NO:=hT.r.one (i:=0) (j:=0) (u:=.int .i64 (p.l[0].kind:Int)) yC an rfl;have Tj:=Tj an;have hE:((p.l[0].kind:Int)==1)=f:=by rw[Tj,Bool.eq_iff_iff,beq_iff_eq,decide_eq_true_iff];omega
  cases x<;>cases f
  all_goals
   refine ag aa rfl ?_
   repeat' ((conv=>whnf);first|with_reducible apply af<;>intro _|refine aM.drawn aa rfl rfl ?_|with_reducible refine And.intro (aN.mk ⟨_,rfl,rfl⟩) ?_|(exfalso;rename_i hx;have:=dF1 hx;exact this (Int.ofNat_lt.2 an))|(exfalso;rename_i hx;have hx:=hE.symm.trans hx;cases hx;done)|refine h1.g [0] rfl rfl ⟨ko,tU⟩ fun G=>?_|refine h2.g [0] rfl rfl ⟨ko,tU⟩ fun G=>?_|refine aj.rr (h5 rfl) [0] rfl rfl ⟨ko,tU⟩ fun A' m' gz G=>?_|refine al.Gd (k:=0) aa rfl rfl rfl rfl rfl rfl an ?_|refine al.kN aa rfl rfl rfl rfl rfl rfl ?_|refine al.aR (i:=0) (v:=iA p.l[0].kind) rfl NO rfl rfl ?_|refine aj.rr h3 [0] rfl rfl ⟨ko,tU⟩ fun A' m' gz G=>?_|refine aj.rr h4 [0] rfl rfl ⟨ko,tU⟩ fun A' m' gz G=>?_|refine ag aa rfl ?_)
   all_goals (try conv=>whnf)
   all_goals first
    | exact ⟨_,_,gz,rfl,_,rfl⟩
    | trace_state
 ·have w6:=w6 an;subst w6;cases x
  all_goals
   refine ag aa rfl ?_
   repeat' ((conv=>whnf);first|with_reducible apply af<;>intro _|refine aM.drawn aa rfl rfl ?_|with_reducible refine And.intro (aN.mk ⟨_,rfl,rfl⟩) ?_|(exfalso;rename_i hx;have:=dT1 hx;exact an (Int.ofNat_lt.1 this))|refine h1.g [0] rfl rfl ⟨ko,tU⟩ fun G=>?_|refine h2.g [0] rfl rfl ⟨ko,tU⟩ fun G=>?_|refine aj.rr (h5 rfl) [0] rfl rfl ⟨ko,tU⟩ fun A' m' gz G=>?_|refine aj.rr h4 [0] rfl rfl ⟨ko,tU⟩ fun A' m' gz G=>?_|refine ag aa rfl ?_)
   all_goals (try conv=>whnf)
   all_goals exact ⟨_,_,gz,rfl,_,rfl⟩
end
section
variable{R:aC}{A:Option Addr}{m:Nat}{e:Nat×Nat}{p:Pr}
theorem Yf(hT:jY R A m p.l):CP [] 176 [.agg (kZ A m e p),.lit (dw C4),bA false] [.res R] (Hd R e (gJ e p).2 fun a=>.tuple [.agg a,.agg (wA (gJ e p).1)]):=by
 have h1:=ma (e:=e) hT;have h2:=gq (e:=e) (s:=C4) hT;have h3:=vS (e:=e) (k:=1) hT;have h5:=fun hb=>yV (e:=e) hT (jP (s:=C4) hb);unfold gJ gN;obtain ⟨y,hy⟩:∃y,y=p.place e:=⟨_,rfl⟩;obtain ⟨a,ha⟩:∃a,a=p.take e 1:=⟨_,rfl⟩;obtain ⟨x,hx⟩:∃x,x=p.is C4:=⟨_,rfl⟩;rw[<-hy] at h1 ⊢;rw[<-ha] at h3 ⊢;rw[<-hx] at h2 h5 ⊢;clear hx hy ha;cases x
 all_goals
  refine ag aa rfl ?_
  repeat' ((conv=>whnf);first|with_reducible apply af<;>intro _|refine aM.drawn aa rfl rfl ?_|with_reducible refine And.intro (aN.mk ⟨_,rfl,rfl⟩) ?_|refine h1.g [0] rfl rfl ⟨ko,tU⟩ fun G=>?_|refine h2.g [0] rfl rfl ⟨ko,tU⟩ fun G=>?_|refine aj.rr (h5 rfl) [0] rfl rfl ⟨ko,tU⟩ fun A' m' gz G=>?_|refine aj.rr h3 [0] rfl rfl ⟨ko,tU⟩ fun A' m' gz G=>?_|refine ag aa rfl ?_)
  all_goals (try conv=>whnf)
  all_goals exact ⟨_,_,gz,rfl,_,rfl⟩
theorem RO{d:Dc}(hT:jY R A m p.l)(hd:d.lo=0):CP [] 177 [.agg (kZ A m e p),.agg (dA d aD)] [.res R] (Hd R e (dJ e d p).2 fun a=>.tuple [.agg a,.agg (dA (dJ e d p).1 aD)]):=by
 have H1:=@fun A m h=>@lq R A m e p cd h;unfold dJ eS;simp only[];obtain ⟨q0,hq⟩:∃q,q=p.want e cd:=⟨_,rfl⟩;rw[<-hq] at H1 ⊢;clear hq;have H2:=@fun A m h=>@Ls R A m e q0 h;obtain ⟨w,hq⟩:∃q,q=iT e q0:=⟨_,rfl⟩;rw[<-hq] at H2 ⊢;clear hq;have H3:=@fun A m h=>@lq R A m e w.2 rN h;obtain ⟨q1,hq⟩:∃q,q=w.2.want e rN:=⟨_,rfl⟩;rw[<-hq] at H3 ⊢;clear hq;have H4:=@fun A m h=>@gq R A m e q1 o7 h;have H5:=@fun A m (h:jY R A m q1.l) hb=>@yV R A m e q1 h (jP (s:=o7) hb);have H6:=@fun A m h=>@vS R A m e q1 3 h;obtain ⟨a,ha⟩:∃q,q=q1.take e 3:=⟨_,rfl⟩;rw[<-ha] at H6;have H7:=@fun A m h=>@gq R A m e a.2 y6 h;have H8:=@fun A m (h:jY R A m a.2.l) hb=>@yV R A m e a.2 h (jP (s:=y6) hb);have H9:=@fun A m h=>@vS R A m e a.2.on 3 h;obtain ⟨b,hb⟩:∃q,q=a.2.on.take e 3:=⟨_,rfl⟩;rw[<-hb] at H9;obtain ⟨t,ht⟩:∃t,gI e q1=t:=⟨_,rfl⟩;rw[ht];unfold gI fW at ht;simp only[] at ht;rw[<-ha] at ht;rw[<-hb] at ht;have xe:=ht.symm;clear ht ha hb;obtain ⟨x,hx⟩:∃x,x=q1.is o7:=⟨_,rfl⟩;obtain ⟨y,hy⟩:∃y,y=a.2.is y6:=⟨_,rfl⟩;rw[<-hx] at H4 H5 xe;rw[<-hy] at H7 H8 xe;clear hx hy;have VW:=@fun A m h=>@lq R A m e t.2.2 bU h;obtain ⟨q2,hq⟩:∃q,q=t.2.2.want e bU:=⟨_,rfl⟩;rw[<-hq] at VW ⊢;clear hq;have VX:=@fun A m h=>@Ls R A m e q2 h;obtain ⟨l,hq⟩:∃q,q=iT e q2:=⟨_,rfl⟩;rw[<-hq] at VX ⊢;clear hq;have VY:=@fun A m h=>@lq R A m e l.2 GJ h;obtain ⟨q3,hq⟩:∃q,q=l.2.want e GJ:=⟨_,rfl⟩;rw[<-hq] at VY ⊢;clear hq;have VZ:=@fun A m h=>@Yf R A m e q3 h;obtain ⟨r,hq⟩:∃q,q=gJ e q3:=⟨_,rfl⟩;rw[<-hq] at VZ ⊢;clear hq;have V0:=@fun A m h=>@lq R A m e r.2 ua h;obtain ⟨q4,hq⟩:∃q,q=r.2.want e ua:=⟨_,rfl⟩;rw[<-hq] at V0 ⊢;clear hq;have V1:=@fun A m h=>@vS R A m e q4 3 h;unfold fW;obtain ⟨z,hq⟩:∃q,q=q4.take e 3:=⟨_,rfl⟩;rw[<-hq] at V1 ⊢;clear hq;cases x
 ·cases y
  all_goals
   simp only[Bool.false_eq_true,if_false,if_true] at xe
   subst xe
   refine ag aa rfl ?_
   refine eX.of rfl rfl ?_
   refine aI.az fun F hF=>?_
   repeat' ((conv=>whnf);first|with_reducible apply af<;>intro _|refine aM.drawn aa rfl rfl ?_|with_reducible refine And.intro (aN.mk ⟨_,rfl,rfl⟩) ?_|refine aj.rr (H1 _ _ hT) [0] rfl rfl ⟨ko,tU⟩ fun A1 m1 T1 G=>?_|refine aj.rr (H2 _ _ T1) [0] rfl rfl ⟨ko,tU⟩ fun A2 m2 T2 G=>?_|refine aj.rr (H3 _ _ T2) [0] rfl rfl ⟨ko,tU⟩ fun A3 m3 T3 G=>?_|refine (H4 _ _ T3).g [0] rfl rfl ⟨ko,tU⟩ fun G=>?_|refine aj.rr (H6 _ _ T3) [0] rfl rfl ⟨ko,tU⟩ fun A4 m4 T4 G=>?_|refine (H7 _ _ T4).g [0] rfl rfl ⟨ko,tU⟩ fun G=>?_|refine aj.rr (H8 _ _ T4 rfl) [0] rfl rfl ⟨ko,tU⟩ fun A5 m5 T5 G=>?_|refine aj.rr (H9 _ _ T5) [0] rfl rfl ⟨ko,tU⟩ fun A6 m6 T6 G=>?_|refine aj.rr (VW _ _ (by assumption)) [0] rfl rfl ⟨ko,tU⟩ fun A7 m7 T7 G=>?_|refine aj.rr (VX _ _ T7) [0] rfl rfl ⟨ko,tU⟩ fun A8 m8 T8 G=>?_|refine aj.rr (VY _ _ T8) [0] rfl rfl ⟨ko,tU⟩ fun A9 m9 T9 G=>?_|refine aj.rr (VZ _ _ T9) [0] rfl rfl ⟨ko,tU⟩ fun B1 n1 U1 G=>?_|refine aj.rr (V0 _ _ U1) [0] rfl rfl ⟨ko,tU⟩ fun B2 n2 U2 G=>?_|refine aj.rr (V1 _ _ U2) [0] rfl rfl ⟨ko,tU⟩ fun B3 n3 U3 G=>?_|(show F _ _ _;subst hF;refine aI.az fun F hF=>?_)|(show F _ _ _;subst hF)|refine ag aa rfl ?_)
   all_goals (try conv=>whnf)
   all_goals exact ⟨_,_,U3,rfl,_,rfl⟩
 ·simp only[if_true] at xe;subst xe;refine ag aa rfl ?_;refine eX.of rfl rfl ?_;refine aI.az fun F hF=>?_;repeat' ((conv=>whnf);first|with_reducible apply af<;>intro _|refine aM.drawn aa rfl rfl ?_|with_reducible refine And.intro (aN.mk ⟨_,rfl,rfl⟩) ?_|refine aj.rr (H1 _ _ hT) [0] rfl rfl ⟨ko,tU⟩ fun A1 m1 T1 G=>?_|refine aj.rr (H2 _ _ T1) [0] rfl rfl ⟨ko,tU⟩ fun A2 m2 T2 G=>?_|refine aj.rr (H3 _ _ T2) [0] rfl rfl ⟨ko,tU⟩ fun A3 m3 T3 G=>?_|refine (H4 _ _ T3).g [0] rfl rfl ⟨ko,tU⟩ fun G=>?_|refine aj.rr (H5 _ _ T3 rfl) [0] rfl rfl ⟨ko,tU⟩ fun A4 m4 T4 G=>?_|refine aj.rr (H6 _ _ T3) [0] rfl rfl ⟨ko,tU⟩ fun A4 m4 T4 G=>?_|refine (H7 _ _ T4).g [0] rfl rfl ⟨ko,tU⟩ fun G=>?_|refine aj.rr (H8 _ _ T4 rfl) [0] rfl rfl ⟨ko,tU⟩ fun A5 m5 T5 G=>?_|refine aj.rr (H9 _ _ T5) [0] rfl rfl ⟨ko,tU⟩ fun A6 m6 T6 G=>?_|refine aj.rr (VW _ _ (by assumption)) [0] rfl rfl ⟨ko,tU⟩ fun A7 m7 T7 G=>?_|refine aj.rr (VX _ _ T7) [0] rfl rfl ⟨ko,tU⟩ fun A8 m8 T8 G=>?_|refine aj.rr (VY _ _ T8) [0] rfl rfl ⟨ko,tU⟩ fun A9 m9 T9 G=>?_|refine aj.rr (VZ _ _ T9) [0] rfl rfl ⟨ko,tU⟩ fun B1 n1 U1 G=>?_|refine aj.rr (V0 _ _ U1) [0] rfl rfl ⟨ko,tU⟩ fun B2 n2 U2 G=>?_|refine aj.rr (V1 _ _ U2) [0] rfl rfl ⟨ko,tU⟩ fun B3 n3 U3 G=>?_|(show F _ _ _;subst hF;refine aI.az fun F hF=>?_)|(show F _ _ _;subst hF)|refine ag aa rfl ?_)
  all_goals (try conv=>whnf)
  rw[hd];all_goals exact ⟨_,_,U3,rfl,_,rfl⟩
end
structure RbL where
 A:Option Addr
 m:Nat
 q:Pr
 out:List Bx
 more:Bool
section
variable{R:aC}{A:Option Addr}{m:Nat}{e:Nat×Nat}{p:Pr}
theorem Ru(hT:jY R A m p.l):CP [] 175 [.agg (kZ A m e p)] [.res R] (fun v H'=>∃A' m',jY R A' m' (bF e p).2.l/\∃n,n+1=(bF e p).1.length/\v=.tuple [.agg (kZ A' m' e (bF e p).2),.slice 3 0 (n+1) (.grown 4)]/\∃G1 G2 G,H'=.res R::G1::G2::.row ((bF e p).1.flatMap iy) oA::G):=by
 obtain ⟨F,hF⟩:∃F,F=bF e p:=⟨_,rfl⟩;rw[<-hF];refine ag aa rfl ?_;conv=>whnf
 refine aV aa rfl (fun x:RbL=>[(1,.ptr 1 0),(2,.ptr 2 0),(4,sx 3 4 x.out.length),(5,bA x.more)]) (fun x=>[.res R,.cells (kZ x.A x.m e x.q) Yo,.cells (kZ none 0 (0,0) ⟨[],none⟩) Yo]++Al (x.out.flatMap iy) oA x.out.length)
  (fun x=>jY R x.A x.m x.q.l/\(x.more=true->x.out.length+x.q.l.length<=p.l.length)/\(x.more=true->F=fT e (hZ e x.q).2.l.length (hZ e x.q).2 (x.out++[(hZ e x.q).1]))/\(x.more=false->F=(x.out,x.q)/\x.out≠[]))
  (fun x=>if x.more then (hZ e x.q).2.l.length+1 else 0) ⟨A,m,p,[],true⟩ ⟨hT,fun _=>by simp,fun _=>?_,fun h=>(nomatch h)⟩ [0,1,2] ?_ ?_
 ·rw[hF];exact uy e _ _ _ _ (qR e p) (Nat.le_refl _)
 ·exact ⟨rfl,⟨rr,rr,rr,rr,tU⟩,⟨ko,⟨_,rfl,rfl⟩,⟨_,rfl,rfl⟩,tU⟩⟩
 ·rintro ⟨A,m,q,out,more⟩ ⟨h1,h2,h3,h4⟩;simp only[] at h1 h2 h3 h4;cases more with
  | false=>
    obtain ⟨rfl,aP⟩:=h4 rfl;obtain ⟨n,hn⟩:∃n,out.length=n+1:=⟨out.length - 1,by have:=List.length_pos_iff.2 aP;omega⟩;simp only[hn];repeat' ((conv=>whnf);first|with_reducible apply af<;>intro _|refine aM.drawn aa rfl rfl ?_|with_reducible refine And.intro (aN.mk ⟨_,rfl,rfl⟩) ?_  | refine ag aa rfl ?_)
    all_goals (try conv=>whnf)
    exact ⟨A,m,h1,n,rfl,rfl,_,_,_,rfl⟩
  | true=>
    have h2:=h2 rfl;have h3:=h3 rfl;have H1:=@fun A m h=>@vS R A m e q 3 h;have hlen:=qR e q;have NQ:(hZ e q).2.l.length=((((q.take e 3).2.take e 3).2.take e 3).2.take e 3).2.l.length:=rfl;unfold hZ fW at h3 hlen;simp only[] at h3 hlen;obtain ⟨a,hq⟩:∃a,a=q.take e 3:=⟨_,rfl⟩;rw[<-hq] at H1 h3 hlen NQ;clear hq;have H2:=@fun A m h=>@vS R A m e a.2 3 h;obtain ⟨b,hq⟩:∃b,b=a.2.take e 3:=⟨_,rfl⟩;rw[<-hq] at H2 h3 hlen NQ;clear hq;have H3:=@fun A m h=>@vS R A m e b.2 3 h;obtain ⟨c,hq⟩:∃c,c=b.2.take e 3:=⟨_,rfl⟩;rw[<-hq] at H3 h3 hlen NQ;clear hq;have H4:=@fun A m h=>@vS R A m e c.2 3 h;obtain ⟨d,hq⟩:∃d,d=c.2.take e 3:=⟨_,rfl⟩;rw[<-hq] at H4 h3 hlen NQ;clear hq;have H5:=@fun A m h=>@gq R A m e d.2 [43] h;have H6:=@fun A m (h:jY R A m d.2.l) hb=>@yV R A m e d.2 h (jP (s:=[43]) hb);have z9:d.2.on.l.length=d.2.l.length - 1:=by unfold Pr.on;simp
    have nC:=fun hb=>List.length_pos_iff.2 (@jP d.2 [43] hb);have pj:=@Cg e d.2 (out++[(⟨a.1.n,b.1.n,c.1.n,d.1.n⟩:Bx)]);have NR:=fun hb=>Ch e (p:=d.2) (out:=out++[(⟨a.1.n,b.1.n,c.1.n,d.1.n⟩:Bx)]) hb d.2.l.length;obtain ⟨x,hx⟩:∃x,x=d.2.is [43]:=⟨_,rfl⟩;rw[<-hx] at H5 H6 pj NR nC;have si:out.length<=1000001:=by have:=h1.r.len;have:=hT.r.len;omega
    clear hx;rcases out with _|⟨o,out⟩;all_goals cases x
    ·simp only[List.length_nil];repeat' ((conv=>whnf);first|with_reducible apply af<;>intro _|refine aM.drawn aa rfl rfl ?_|with_reducible refine And.intro (aN.mk ⟨_,rfl,rfl⟩) ?_|refine bS.loop 5 (bS.step aa rfl ?_)|refine bS.step aa rfl ?_|refine aO.of (k:=0) rfl (by decide) ?_|refine aO.of (k:=1) rfl (by decide) ?_|refine aO.of (k:=2) rfl (by decide) ?_|refine aO.of (k:=3) rfl (by decide) ?_|refine aj.rr (H1 _ _ h1) [0] rfl rfl ⟨ko,tU⟩ fun A1 m1 T1 G=>?_|refine aj.rr (H2 _ _ T1) [0] rfl rfl ⟨ko,tU⟩ fun A2 m2 T2 G=>?_|refine aj.rr (H3 _ _ T2) [0] rfl rfl ⟨ko,tU⟩ fun A3 m3 T3 G=>?_|refine aj.rr (H4 _ _ T3) [0] rfl rfl ⟨ko,tU⟩ fun A4 m4 T4 G=>?_|refine (H5 _ _ T4).g [0] rfl rfl ⟨ko,tU⟩ fun G=>?_|refine aj.rr (H6 _ _ T4 rfl) [0] rfl rfl ⟨ko,tU⟩ fun A5 m5 T5 G=>?_|refine dx.nil nj rfl rfl rfl rfl rfl ?_|refine ag aa rfl ?_)
     all_goals (try conv=>whnf)
     refine ⟨⟨A4,m4,d.2,([]:List Bx)++[(⟨a.1.n,b.1.n,c.1.n,d.1.n⟩:Bx)],false⟩,[0,1,2,9],⟨⟨T4,fun h=>(nomatch h),fun h=>(nomatch h),fun _=>⟨h3.trans (NR rfl),by simp⟩⟩,Nat.zero_lt_succ _⟩,rfl,⟨rr,rr,⟨rfl,by rw[List.length_append];rfl⟩,⟨rfl,rfl⟩,tU⟩,⟨ko,⟨_,rfl,rfl⟩,⟨_,rfl,rfl⟩,⟨_,rfl,?_⟩,tU⟩⟩;rfl
    ·simp only[List.length_nil];repeat' ((conv=>whnf);first|with_reducible apply af<;>intro _|refine aM.drawn aa rfl rfl ?_|with_reducible refine And.intro (aN.mk ⟨_,rfl,rfl⟩) ?_|refine bS.loop 5 (bS.step aa rfl ?_)|refine bS.step aa rfl ?_|refine aO.of (k:=0) rfl (by decide) ?_|refine aO.of (k:=1) rfl (by decide) ?_|refine aO.of (k:=2) rfl (by decide) ?_|refine aO.of (k:=3) rfl (by decide) ?_|refine aj.rr (H1 _ _ h1) [0] rfl rfl ⟨ko,tU⟩ fun A1 m1 T1 G=>?_|refine aj.rr (H2 _ _ T1) [0] rfl rfl ⟨ko,tU⟩ fun A2 m2 T2 G=>?_|refine aj.rr (H3 _ _ T2) [0] rfl rfl ⟨ko,tU⟩ fun A3 m3 T3 G=>?_|refine aj.rr (H4 _ _ T3) [0] rfl rfl ⟨ko,tU⟩ fun A4 m4 T4 G=>?_|refine (H5 _ _ T4).g [0] rfl rfl ⟨ko,tU⟩ fun G=>?_|refine aj.rr (H6 _ _ T4 rfl) [0] rfl rfl ⟨ko,tU⟩ fun A5 m5 T5 G=>?_|refine dx.nil nj rfl rfl rfl rfl rfl ?_|refine ag aa rfl ?_)
     all_goals (try conv=>whnf)
     refine ⟨⟨A5,m5,d.2.on,([]:List Bx)++[(⟨a.1.n,b.1.n,c.1.n,d.1.n⟩:Bx)],true⟩,[0,1,2,9],⟨⟨T5,fun _=>by show (([]:List Bx)++[(⟨a.1.n,b.1.n,c.1.n,d.1.n⟩:Bx)]).length+d.2.on.l.length<=_;have:=nC rfl;simp only[List.length_append,List.length_cons,List.length_nil] at h2 ⊢;omega,fun _=>h3.trans (pj rfl).1,fun h=>(nomatch h)⟩,by show _<(hZ e q).2.l.length+1;rw[NQ];exact Nat.succ_lt_succ (pj rfl).2⟩,rfl,⟨rr,rr,⟨rfl,by rw[List.length_append];rfl⟩,⟨rfl,rfl⟩,tU⟩,⟨ko,⟨_,rfl,rfl⟩,⟨_,rfl,rfl⟩,⟨_,rfl,?_⟩,tU⟩⟩;rfl
    ·simp only[List.length_cons];repeat' ((conv=>whnf);first|with_reducible apply af<;>intro _|refine aM.drawn aa rfl rfl ?_|with_reducible refine And.intro (aN.mk ⟨_,rfl,rfl⟩) ?_|refine bS.loop 5 (bS.step aa rfl ?_)|refine bS.step aa rfl ?_|refine aO.of (k:=0) rfl (by decide) ?_|refine aO.of (k:=1) rfl (by decide) ?_|refine aO.of (k:=2) rfl (by decide) ?_|refine aO.of (k:=3) rfl (by decide) ?_|refine aj.rr (H1 _ _ h1) [0] rfl rfl ⟨ko,tU⟩ fun A1 m1 T1 G=>?_|refine aj.rr (H2 _ _ T1) [0] rfl rfl ⟨ko,tU⟩ fun A2 m2 T2 G=>?_|refine aj.rr (H3 _ _ T2) [0] rfl rfl ⟨ko,tU⟩ fun A3 m3 T3 G=>?_|refine aj.rr (H4 _ _ T3) [0] rfl rfl ⟨ko,tU⟩ fun A4 m4 T4 G=>?_|refine (H5 _ _ T4).g [0] rfl rfl ⟨ko,tU⟩ fun G=>?_|refine aj.rr (H6 _ _ T4 rfl) [0] rfl rfl ⟨ko,tU⟩ fun A5 m5 T5 G=>?_|refine dx.own nj rfl rfl rfl rfl rfl rfl (by rw[eC qb];rfl) (by simp at si ⊢;omega) ?_|refine ag aa rfl ?_)
     all_goals (try conv=>whnf)
     refine ⟨⟨A4,m4,d.2,(o::out)++[(⟨a.1.n,b.1.n,c.1.n,d.1.n⟩:Bx)],false⟩,[0,1,2,10],⟨⟨T4,fun h=>(nomatch h),fun h=>(nomatch h),fun _=>⟨h3.trans (NR rfl),by simp⟩⟩,Nat.zero_lt_succ _⟩,rfl,⟨rr,rr,⟨rfl,by rw[List.length_append];rfl⟩,⟨rfl,rfl⟩,tU⟩,⟨ko,⟨_,rfl,rfl⟩,⟨_,rfl,rfl⟩,⟨_,rfl,?_⟩,tU⟩⟩;rw[List.flatMap_append];rfl
    ·simp only[List.length_cons];repeat' ((conv=>whnf);first|with_reducible apply af<;>intro _|refine aM.drawn aa rfl rfl ?_|with_reducible refine And.intro (aN.mk ⟨_,rfl,rfl⟩) ?_|refine bS.loop 5 (bS.step aa rfl ?_)|refine bS.step aa rfl ?_|refine aO.of (k:=0) rfl (by decide) ?_|refine aO.of (k:=1) rfl (by decide) ?_|refine aO.of (k:=2) rfl (by decide) ?_|refine aO.of (k:=3) rfl (by decide) ?_|refine aj.rr (H1 _ _ h1) [0] rfl rfl ⟨ko,tU⟩ fun A1 m1 T1 G=>?_|refine aj.rr (H2 _ _ T1) [0] rfl rfl ⟨ko,tU⟩ fun A2 m2 T2 G=>?_|refine aj.rr (H3 _ _ T2) [0] rfl rfl ⟨ko,tU⟩ fun A3 m3 T3 G=>?_|refine aj.rr (H4 _ _ T3) [0] rfl rfl ⟨ko,tU⟩ fun A4 m4 T4 G=>?_|refine (H5 _ _ T4).g [0] rfl rfl ⟨ko,tU⟩ fun G=>?_|refine aj.rr (H6 _ _ T4 rfl) [0] rfl rfl ⟨ko,tU⟩ fun A5 m5 T5 G=>?_|refine dx.own nj rfl rfl rfl rfl rfl rfl (by rw[eC qb];rfl) (by simp at si ⊢;omega) ?_|refine ag aa rfl ?_)
     all_goals (try conv=>whnf)
     refine ⟨⟨A5,m5,d.2.on,(o::out)++[(⟨a.1.n,b.1.n,c.1.n,d.1.n⟩:Bx)],true⟩,[0,1,2,10],⟨⟨T5,fun _=>by show ((o::out)++[(⟨a.1.n,b.1.n,c.1.n,d.1.n⟩:Bx)]).length+d.2.on.l.length<=_;have:=nC rfl;simp only[List.length_append,List.length_cons,List.length_nil] at h2 ⊢;omega,fun _=>h3.trans (pj rfl).1,fun h=>(nomatch h)⟩,by show _<(hZ e q).2.l.length+1;rw[NQ];exact Nat.succ_lt_succ (pj rfl).2⟩,rfl,⟨rr,rr,⟨rfl,by rw[List.length_append];rfl⟩,⟨rfl,rfl⟩,tU⟩,⟨ko,⟨_,rfl,rfl⟩,⟨_,rfl,rfl⟩,⟨_,rfl,?_⟩,tU⟩⟩;rw[List.flatMap_append];rfl
end
