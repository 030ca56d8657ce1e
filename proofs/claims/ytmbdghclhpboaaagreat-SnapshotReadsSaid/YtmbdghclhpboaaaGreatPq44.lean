/- Part of the proof: Rf22b Rf22c Rf22d Rf22e. Conditions: as each states. -/
import Derived.Test.YtmbdghclhpboaaaGreatPq43
set_option linter.all false
set_option maxRecDepth 100000
set_option maxHeartbeats 8000000
namespace Go.Proofs.YtmbdghclhpboaaaGreat
open Ev Go.RowKit
def lr(l:List cy)(s:Nat):Bool:=decide (0<s)&&l.any fun k=>decide (k.bH=s)
theorem E6(l:List cy)(s:Nat):(mY l s).isSome=lr l s:=by
 unfold mY lr;by_cases h:s=0
 ·rw[if_pos h,h];rfl
 ·rw[if_neg h,decide_eq_true (by omega:0<s),Bool.true_and,List.findIdx?_isSome]
theorem EH{R:aC}{oa:Option Addr}{c i:Nat}{l:List cy}{s:Nat}(h:cU Tryz.prog R 96 10 oa sa l)(hi:i<=l.length)(hn:l.length<=9223372036854775807):CP [] 92 [.lit (.slice oa i c),uA s] [.res R] (fun v H'=>∃z:cy,v=.tuple [.agg ((tC z).map .lit),bA (lr (l.take i) s)]/\∃G,H'=.res R::G):=by
 obtain ⟨o,ho⟩:∃o,o=lr (l.take i) s:=⟨_,rfl⟩;rw[<-ho];unfold lr at ho;refine ag aa rfl ?_;conv=>whnf
 refine aV aa rfl (fun j:Nat=>[(0,.lit (.slice oa i c)),(1,uA s),(4,.ptr 1 0),(6,iA (j:Nat))]) (fun _=>[.res R,.cells ((tC ⟨0,0,⟨0,0,0,0,0,0,false,0⟩⟩).map .lit) 96]) (fun j=>j<=i/\o=(decide (0<s)&&((l.take i).drop j).any fun k=>decide (k.bH=s))) (fun j=>i - j) 0 ⟨Nat.zero_le _,ho⟩ [0,1] ⟨rfl,⟨rr,rr,rr,rr,tU⟩,⟨ko,⟨_,rfl,rfl⟩,tU⟩⟩ ?_;rintro j ⟨hj,he⟩;clear ho;by_cases h0:0<s
 ·rw[decide_eq_true h0,Bool.true_and] at he;by_cases an:j<i
  ·have oS:j<l.length:=by omega
   obtain ⟨a,rfl,bu⟩:=h.at oS;rw[List.drop_eq_getElem_cons (by rw[List.length_take];omega),List.any_cons,List.getElem_take] at he;have cQ:lg Tryz.prog R 96 10 a sa l:=bu;have k1:=lg.j8 (j:=0) (u:=.int .u64 l[j].bH) (ty2:=47) aa cQ ⟨_,rfl,rfl⟩ oS ⟨_,rfl,rfl⟩ rfl;have k3:=fun w S hw=>bu w S hw j oS;obtain ⟨y,hy⟩:∃y,y=l[j]:=⟨_,rfl⟩;rw[<-hy] at he k1;simp only[<-hy] at k3;repeat' ((conv=>whnf);first|with_reducible apply af<;>intro _|(exfalso;exact bT an (by assumption))|(exfalso;rename_i hx;exact dF1 hx (Int.ofNat_lt.2 h0))|refine al.bC aa rfl rfl rfl rfl rfl an ?_|refine al.kN aa rfl rfl rfl rfl rfl rfl ?_|refine al.aR (i:=0) (v:=uA y.bH) rfl k1 rfl rfl ?_|refine al.aR (i:=0) (v:=.agg ((tC y).map .lit)) rfl k3 rfl rfl ?_|refine ag aa rfl ?_)
   all_goals (try conv=>whnf)
   ·rename_i hk;rw[show decide (y.bH=s)=true from NY.symm.trans hk,Bool.true_or] at he;subst he;exact ⟨y,rfl,_,rfl⟩
   ·rename_i hk;rw[show decide (y.bH=s)=false from NY.symm.trans hk,Bool.false_or] at he;exact ⟨j+1,[0,1],⟨⟨an,by rw[decide_eq_true h0,Bool.true_and];exact he⟩,Nat.sub_lt_sub_left an (Nat.lt_succ_self _)⟩,rfl,⟨rr,rr,rr,⟨rfl,ax rfl (ak (by omega) (by omega))⟩,tU⟩,⟨ko,⟨_,rfl,rfl⟩,tU⟩⟩
  ·obtain rfl:j=i:=by omega
   rw[List.drop_of_length_le (by rw[List.length_take];omega),List.any_nil] at he;subst he;repeat' ((conv=>whnf);first|with_reducible apply af<;>intro _|(exfalso;exact cF an (by assumption))|refine ag aa rfl ?_)
   all_goals (try conv=>whnf)
   all_goals exact ⟨⟨0,0,⟨0,0,0,0,0,0,false,0⟩⟩,rfl,_,rfl⟩
 ·rw[decide_eq_false h0,Bool.false_and] at he;subst he;repeat' ((conv=>whnf);first|with_reducible apply af<;>intro _|(exfalso;rename_i hx;exact h0 (Int.ofNat_lt.1 (dT1 hx)))|refine ag aa rfl ?_)
  all_goals (try conv=>whnf)
  all_goals exact ⟨⟨0,0,⟨0,0,0,0,0,0,false,0⟩⟩,rfl,_,rfl⟩
def LH(acc:List cy)(k:cy):Bool:=!(decide (k.bH=0) || lr acc k.bH || (decide (0<k.parent)&&!lr acc k.parent) || !k.g.right)
theorem C6(acc r:List cy)(k:cy):(ef (k::r) acc).isSome=(LH acc k&&(ef r (acc++[k])).isSome):=by
 rw[ef,E6,<-Option.not_isSome,E6];unfold LH;rw[show decide (k.parent≠0)=decide (0<k.parent) by rw[decide_eq_decide];omega];generalize lr acc k.bH=a;generalize lr acc k.parent=b;generalize decide (k.bH=0)=c;generalize decide (0<k.parent)=d;generalize k.g.right=e;cases a<;>cases b<;>cases c<;>cases d<;>cases e<;>simp
theorem R6{R:aC}{oa:Option Addr}{c:Nat}{l:List cy}(h:cU Tryz.prog R 96 10 oa sa l)(hc:l.length<=c)(hn:l.length<=9223372036854775807):CP [] 31 [.lit (.slice oa l.length c)] [.res R] (lf (bA (cw l).isSome) [.res R]):=by
 have hT:(cw l).isSome=(decide (l.length<=8)&&(ef l []).isSome):=by
  unfold cw;by_cases h8:8<l.length
  ·rw[if_pos h8,decide_eq_false (by omega)];rfl
  ·rw[if_neg h8,decide_eq_true (by omega),Bool.true_and]
 obtain ⟨o,ho⟩:∃o,o=(ef l []).isSome:=⟨_,rfl⟩;rw[hT,<-ho];clear hT;refine ag aa rfl ?_;conv=>whnf
 refine aV aa rfl (fun i:Nat=>[(0,.lit (.slice oa l.length c)),(3,iA (i:Nat))]) (fun _=>[.res R]) (fun i=>i<=l.length/\o=(ef (l.drop i) (l.take i)).isSome) (fun i=>l.length - i) 0 ⟨Nat.zero_le _,ho⟩ [0] ⟨rfl,⟨rr,rr,tU⟩,⟨ko,tU⟩⟩ ?_;rintro i ⟨hi,he⟩;clear ho;by_cases an:i<l.length
 ·have FP:=EH (c:=c) (s:=l[i].bH) h (Nat.le_of_lt an) hn;have sZ:=EH (c:=c) (s:=l[i].parent) h (Nat.le_of_lt an) hn;obtain ⟨a,rfl,bu⟩:=h.at an;rw[List.drop_eq_getElem_cons an,C6,<-bq an] at he;have cQ:lg Tryz.prog R 96 10 a sa l:=bu;have k1:=lg.j8 (j:=0) (u:=.int .u64 l[i].bH) (ty2:=47) aa cQ ⟨_,rfl,rfl⟩ an ⟨_,rfl,rfl⟩ rfl;have k2:=lg.j8 (j:=1) (u:=.int .u64 l[i].parent) (ty2:=47) aa cQ ⟨_,rfl,rfl⟩ an ⟨_,rfl,rfl⟩ rfl;have k3:=lg.zu (j:=2) (n2:=8) (cs:=(tC l[i]).drop 2) (ty2:=94) aa cQ ⟨_,rfl,rfl⟩ an ⟨_,rfl,rfl,rfl⟩ rfl rfl;obtain ⟨y,hy⟩:∃y,y=l[i]:=⟨_,rfl⟩;rw[<-hy] at he k1 k2 k3 FP sZ;unfold LH at he;clear bu cQ hy;refine aI.az fun F2 cf=>?_;repeat' ((conv=>whnf);first|with_reducible apply af<;>intro _|refine aM.drawn aa rfl rfl ?_|with_reducible refine And.intro (aN.mk ⟨_,rfl,rfl⟩) ?_|(exfalso;exact bT an (by assumption))|refine al.bC aa rfl rfl rfl rfl rfl an ?_|refine al.kN aa rfl rfl rfl rfl rfl rfl ?_|refine al.JL (j:=i) aa rfl rfl rfl rfl rfl rfl (by omega) ?_|refine al.aR (i:=0) (v:=uA y.bH) rfl k1 rfl rfl ?_|refine al.aR (i:=0) (v:=uA y.parent) rfl k2 rfl rfl ?_|refine al.aR (i:=0) (v:=.agg (((tC y).drop 2).map .lit)) rfl k3 rfl rfl ?_|(refine FP.use [0] rfl rfl ⟨ko,tU⟩ ?_;rintro _ _ ⟨rv,rfl,G,rfl⟩;refine ⟨[],?_⟩)|(refine sZ.use [0] rfl rfl ⟨ko,tU⟩ ?_;rintro _ _ ⟨rv2,rfl,G,rfl⟩;refine ⟨[],?_⟩)|refine Ux (g:=y.g) ?_|refine ky.mk ?_ ?_|(show F2 _ _ _;subst cf;refine aI.az fun F2 cf=>?_)|(show F2 _ _ _;subst cf)|(show F _ _ _;subst hF;refine aI.az fun F hF=>?_)|(show F _ _ _;subst hF)|refine ag aa rfl ?_)
  all_goals (try conv=>whnf)
  all_goals clear k1 k2 k3 FP sZ h
  all_goals first
   | (refine ⟨fe ?_,_,rfl⟩
      rw[he]
      generalize (ef (l.drop (i+1)) (l.take (i+1))).isSome=q
      generalize lr (l.take i) y.bH=t1 at *
      generalize lr (l.take i) y.parent=t2 at *
      generalize y.g.right=t3 at *
      clear he
      simp_all
      done)
   | (refine ⟨fe ?_,_,rfl⟩
      rw[he]
      generalize (ef (l.drop (i+1)) (l.take (i+1))).isSome=q
      generalize lr (l.take i) y.bH=t1 at *
      generalize lr (l.take i) y.parent=t2 at *
      generalize y.g.right=t3 at *
      clear he
      simp_all
      omega)
   | (refine ⟨i+1,[0],⟨⟨an,?_⟩,Nat.sub_lt_sub_left an (Nat.lt_succ_self _)⟩,rfl,⟨rr,⟨rfl,ax rfl (ak (by omega) (by omega))⟩,tU⟩,⟨ko,tU⟩⟩
      rw[he]
      generalize (ef (l.drop (i+1)) (l.take (i+1))).isSome=q
      generalize lr (l.take i) y.bH=t1 at *
      generalize lr (l.take i) y.parent=t2 at *
      generalize y.g.right=t3 at *
      clear he
      first
       | (simp_all;done)
       | (simp_all;omega))
 ·obtain rfl:i=l.length:=by omega
  rw[List.drop_length,ef,Option.isSome_some] at he;subst he;repeat' ((conv=>whnf);first|with_reducible apply af<;>intro _|refine aM.drawn aa rfl rfl ?_|with_reducible refine And.intro (aN.mk ⟨_,rfl,rfl⟩) ?_|(exfalso;exact cF an (by assumption))|refine ag aa rfl ?_)
  all_goals (try conv=>whnf)
  all_goals rename_i hx
  all_goals first
   | exact ⟨fe (by rw[Bool.and_true];exact (decide_eq_true (show l.length<=8 from Int.ofNat_le.1 (dT1 hx))).symm),_,rfl⟩
   | exact ⟨fe (by rw[Bool.and_true];exact (decide_eq_false (show ¬l.length<=8 from fun h=>dF1 hx (Int.ofNat_le.2 h))).symm),_,rfl⟩
def K3(p:Int)(m:Mem):Bool:=(Mem.right { m with k:=0,cu:=0 }&&(decide (m.k=0/\m.cu=0) || decide (1<=m.k/\m.k<=65535)))&&decide (p<m.user)
def nR:Int->List Mem->Bool
 | _,[]=>true
 | p,m::r=>K3 p m&&nR m.user r
def mQ:List Mem->Bool
 | []=>false
 | m::r=>decide (m.user=0/\m.role=0/\m.jo=0/\m.fL=65535/\m.k=0/\m.cu=0)&&nR m.user r
theorem xn:∀{r:List Mem} {p:Int},0<=p->nR p r=(im p (r.map Mem.user)&&!(r.any fun m=>!m.dF))
 | [],_,_=>rfl
 | m::r,p,hp=>by
   rw[nR,List.map_cons,im,List.any_cons];unfold K3;by_cases h:p<m.user
   ·rw[xn (show 0<=m.user by omega),decide_eq_true h];unfold Mem.dF;rw[if_neg (show ¬m.user=0 by omega)];generalize (Mem.right { m with k:=0,cu:=0 }&&(decide (m.k=0/\m.cu=0) || decide (1<=m.k/\m.k<=65535)))=a;generalize im m.user (r.map Mem.user)=b;generalize (r.any fun m=>!m.dF)=c;cases a<;>cases b<;>cases c<;>rfl
   ·rw[decide_eq_false h,Bool.and_false,Bool.false_and,Bool.false_and,Bool.false_and]
theorem Gh(ms:List Mem):mQ ms=((match ms.map Mem.user with|[]=>false|x::_=>x==0)&&(cP (ms.map Mem.user)&&!(ms.any fun m=>!m.dF))):=by
 cases ms with
 | nil=>rfl
 | cons m r=>
   rw[List.map_cons,mQ,cP,List.any_cons];simp only[];by_cases h:m.user=0
   ·rw[xn (show 0<=m.user by omega)];unfold Mem.dF;rw[if_pos h,show (m.user==0)=true from beq_iff_eq.2 h];have e:decide (m.user=0/\m.role=0/\m.jo=0/\m.fL=65535/\m.k=0/\m.cu=0)=decide (m.role=0/\m.jo=0/\m.fL=65535/\m.k=0/\m.cu=0):=by
     rw[decide_eq_decide];exact ⟨fun h=>h.2,fun k=>⟨h,k⟩⟩
    rw[e];generalize decide (m.role=0/\m.jo=0/\m.fL=65535/\m.k=0/\m.cu=0)=a;generalize im m.user (r.map Mem.user)=b;generalize (r.any fun m=>!(if m.user=0 then decide (m.role=0/\m.jo=0/\m.fL=65535/\m.k=0/\m.cu=0) else Mem.right { m with k:=0,cu:=0 }&&(decide (m.k=0/\m.cu=0) || decide (1<=m.k/\m.k<=65535))))=c;cases a<;>cases b<;>cases c<;>rfl
   ·rw[decide_eq_false (fun k=>h k.1),show (m.user==0)=false from beq_eq_false_iff_ne.2 h];rfl
theorem Oo{R:aC}{oa:Option Addr}{c:Nat}{ms:List Mem}(h:cU Tryz.prog R 51 6 oa mC ms)(hn:ms.length<=1000000):CP [] 29 [.lit (.slice oa ms.length c)] [.res R] (lf (bA (mQ ms)) [.res R]):=by
 obtain ⟨o,ho⟩:∃o,o=mQ ms:=⟨_,rfl⟩;rw[<-ho];refine ag aa rfl ?_;conv=>whnf
 refine aV aa rfl (fun i:Nat=>[(0,.lit (.slice oa ms.length c)),(3,iA (i:Nat))]) (fun _=>[.res R]) (fun i=>i<=ms.length/\((i=0/\o=mQ ms)\/∃j,∃hj:j<ms.length,i=j+1/\o=nR ms[j].user (ms.drop (j+1)))) (fun i=>ms.length - i) 0 ⟨Nat.zero_le _,.inl ⟨rfl,ho⟩⟩ [0] ⟨rfl,⟨rr,rr,tU⟩,⟨ko,tU⟩⟩ ?_;rintro i ⟨hi,he⟩;clear ho;by_cases an:i<ms.length
 ·obtain ⟨a,rfl,bu⟩:=h.at an;have cQ:lg Tryz.prog R 51 6 a mC ms:=bu;have k3:=fun w S hw=>bu w S hw i an;have k4:=lg.zu (j:=4) (n2:=2) (cs:=[.int .i64 ms[i].k,.int .u64 ms[i].cu]) (ty2:=49) aa cQ ⟨_,rfl,rfl⟩ an ⟨_,rfl,rfl,rfl⟩ rfl rfl;rcases he with ⟨rfl,he⟩|⟨j,hj,rfl,he⟩
  ·have he:o=(decide (ms[0].user=0/\ms[0].role=0/\ms[0].jo=0/\ms[0].fL=65535/\ms[0].k=0/\ms[0].cu=0)&&nR ms[0].user (ms.drop 1)):=by
    rw[he];cases ms with
    | nil=>exact absurd an (by simp)
    | cons m r=>rfl
   obtain ⟨y,hy⟩:∃y,y=ms[0]:=⟨_,rfl⟩;have ik:o=nR y.user (ms.drop (0+1))->∃j,∃hj:j<ms.length,0+1=j+1/\o=nR ms[j].user (ms.drop (j+1)):=fun e=>⟨0,an,rfl,by rw[hy] at e;exact e⟩;rw[<-hy] at he k4;simp only[<-hy] at k3;have hD:(y.user==0&&(y.role==0&&(y.jo==0&&(y.fL==65535&&(y.k==0&&(y.cu==0&&true))))))=decide (y.user=0/\y.role=0/\y.jo=0/\y.fL=65535/\y.k=0/\y.cu=0):=by
    rw[Bool.eq_iff_iff];simp
   clear bu cQ hy;refine aI.az fun F2 cf=>?_;repeat' ((conv=>whnf);first|with_reducible apply af<;>intro _|refine aM.drawn aa rfl rfl ?_|with_reducible refine And.intro (aN.mk ⟨_,rfl,rfl⟩) ?_|(exfalso;exact bT an (by assumption))|refine al.bC aa rfl rfl rfl rfl rfl an ?_|refine al.kN aa rfl rfl rfl rfl rfl rfl ?_|refine al.aR (i:=0) (v:=.agg (mA y)) rfl k3 rfl rfl ?_|refine al.aR (i:=0) (v:=.agg [iA y.k,uA y.cu]) rfl k4 rfl rfl ?_|refine CM (m:={ y with k:=0,cu:=0 }) ?_|refine Jr ?_|refine ky.mk ?_ ?_|(show F2 _ _ _;subst cf;refine aI.az fun F2 cf=>?_)|(show F2 _ _ _;subst cf)|(show F _ _ _;subst hF;refine aI.az fun F hF=>?_)|(show F _ _ _;subst hF)|refine ag aa rfl ?_)
   all_goals (try conv=>whnf)
   all_goals rename_i hx
   all_goals first
    | rw[hD] at hx
    | skip
   all_goals rw[hx] at he
   all_goals first
    | exact ⟨fe he.symm,_,rfl⟩
    | exact ⟨0+1,[0],⟨⟨an,.inr (ik he)⟩,Nat.sub_lt_sub_left an (Nat.lt_succ_self _)⟩,rfl,⟨rr,⟨rfl,ax rfl (ak (by omega) (by omega))⟩,tU⟩,⟨ko,tU⟩⟩
  ·have k1:=lg.j8 (j:=0) (u:=.int .i64 ms[j+1].user) (ty2:=3) aa cQ ⟨_,rfl,rfl⟩ an ⟨_,rfl,rfl⟩ rfl;have k0:=lg.j8 (j:=0) (u:=.int .i64 ms[j].user) (ty2:=3) aa cQ ⟨_,rfl,rfl⟩ hj ⟨_,rfl,rfl⟩ rfl;rw[List.drop_eq_getElem_cons an,nR] at he;obtain ⟨y,hy⟩:∃y,y=ms[j+1]:=⟨_,rfl⟩;obtain ⟨z,hz⟩:∃z,z=ms[j]:=⟨_,rfl⟩;have ik:o=nR y.user (ms.drop (j+1+1))->∃j',∃hj:j'<ms.length,j+1+1=j'+1/\o=nR ms[j'].user (ms.drop (j'+1)):=fun e=>⟨j+1,an,rfl,by rw[hy] at e;exact e⟩;have hw:IntKind.i64.wrap (((j+1:Nat):Int) - 1)=((j:Nat):Int):=by rw[ak (by omega) (by omega)];omega
   rw[<-hy,<-hz] at he;rw[<-hy] at k4 k1;rw[<-hz] at k0;simp only[<-hy] at k3;clear bu cQ hy hz;unfold K3 at he;refine aI.az fun F2 cf=>?_;repeat' ((conv=>whnf);first|with_reducible apply af<;>intro _|refine aM.drawn aa rfl rfl ?_|with_reducible refine And.intro (aN.mk ⟨_,rfl,rfl⟩) ?_|(exfalso;exact bT an (by assumption))|refine al.bC aa rfl rfl rfl rfl rfl an ?_|refine al.Gd (k:=j) aa rfl rfl rfl rfl rfl hw hj ?_|refine al.kN aa rfl rfl rfl rfl rfl rfl ?_|refine al.aR (i:=0) (v:=.agg (mA y)) rfl k3 rfl rfl ?_|refine al.aR (i:=0) (v:=.agg [iA y.k,uA y.cu]) rfl k4 rfl rfl ?_|refine al.aR (i:=0) (v:=iA y.user) rfl k1 rfl rfl ?_|refine al.aR (i:=0) (v:=iA z.user) rfl k0 rfl rfl ?_|refine CM (m:={ y with k:=0,cu:=0 }) ?_|refine Jr ?_|refine ky.mk ?_ ?_|(show F2 _ _ _;subst cf;refine aI.az fun F2 cf=>?_)|(show F2 _ _ _;subst cf)|(show F _ _ _;subst hF;refine aI.az fun F hF=>?_)|(show F _ _ _;subst hF)|refine ag aa rfl ?_)
   all_goals (try conv=>whnf)
   all_goals clear k0 k1 k3 k4 h
   all_goals generalize nR y.user (ms.drop (j+1+1))=q at he ik
   all_goals generalize Mem.right { y with k:=0,cu:=0 }=r at *
   all_goals first
    | (refine ⟨fe ?_,_,rfl⟩
       rw[he]
       clear he ik
       first
        | (simp_all;done)
        | (simp_all;omega))
    | (refine ⟨j+1+1,[0],⟨⟨an,.inr (ik ?_)⟩,Nat.sub_lt_sub_left an (Nat.lt_succ_self _)⟩,rfl,⟨rr,⟨rfl,ax rfl (ak (by omega) (by omega))⟩,tU⟩,⟨ko,tU⟩⟩
       rw[he]
       clear he ik
       first
        | (simp_all;done)
        | (simp_all;omega))
 ·obtain rfl:i=ms.length:=by omega
  have he:o=decide (0<ms.length):=by
   rcases he with ⟨h0,he⟩|⟨j,hj,h0,he⟩
   ·rw[he,decide_eq_false (by omega),List.eq_nil_of_length_eq_zero h0];rfl
   ·rw[he,decide_eq_true (by omega),<-h0,List.drop_length];rfl
  subst he;repeat' ((conv=>whnf);first|with_reducible apply af<;>intro _|refine aM.drawn aa rfl rfl ?_|with_reducible refine And.intro (aN.mk ⟨_,rfl,rfl⟩) ?_|(exfalso;exact cF an (by assumption))|refine ag aa rfl ?_)
  all_goals (try conv=>whnf)
  all_goals rename_i hx
  all_goals first
   | exact ⟨fe (decide_eq_true (show 0<ms.length from Int.ofNat_lt.1 (dT1 hx))).symm,_,rfl⟩
   | exact ⟨fe (decide_eq_false (show ¬0<ms.length from fun h=>dF1 hx (Int.ofNat_lt.2 h))).symm,_,rfl⟩
section
variable{α:Type}(oi:α->Int)(ok:α->Bool)(mem:Int->Bool)
def jk:Option Int->List α->Bool
 | _,[]=>true
 | p,a::r=>(mem (oi a)&&ok a&&(match p with|none=>true|some p=>decide (p<oi a)))&&jk (some (oi a)) r
theorem CQ:∀(l:List α) (p:Int),jk oi ok mem (some p) l=(im p (l.map oi)&&l.all ok&&!((l.map oi).any fun x=>!mem x))
 | [],_=>rfl
 | a::r,p=>by
   rw[jk,CQ r,List.map_cons,im,List.all_cons,List.any_cons];try simp only[]
   generalize mem (oi a)=x1;generalize ok a=x2;generalize decide (p<oi a)=x3;generalize im (oi a) (r.map oi)=x4;generalize r.all ok=x5;generalize ((r.map oi).any fun x=>!mem x)=x6;cases x1<;>cases x2<;>cases x3<;>cases x4<;>cases x5<;>cases x6<;>rfl
theorem CO(l:List α):jk oi ok mem none l=(cP (l.map oi)&&l.all ok&&!((l.map oi).any fun x=>!mem x)):=by
 cases l with
 | nil=>rfl
 | cons a r=>
   rw[jk,CQ,List.map_cons,cP,List.all_cons,List.any_cons];try simp only[]
   generalize mem (oi a)=x1;generalize ok a=x2;generalize im (oi a) (r.map oi)=x4;generalize r.all ok=x5;generalize ((r.map oi).any fun x=>!mem x)=x6;cases x1<;>cases x2<;>cases x4<;>cases x5<;>cases x6<;>rfl
end
def xI(q:bG)(tk:List dW):Bool:=
 mQ q.ms&&decide (q.nt=q.ms.length)&&decide (0<=q.past/\q.past<=4611686018427387903)&&(tk.all fun x=>(cw x.l).isSome) &&
 jk bW.id bW.bL (fun u=>q.us.any fun y=>y==u) none q.rs&&jk df.id df.bL (fun u=>q.us.any fun y=>y==u) none q.ss&&(q.es.all fS.eD)&&decide ((hU q.s).2.err=0)
theorem Jn(q:bG)(tk:List dW):xI q tk=eK q tk:=by
 unfold xI eK bG.sound bG.aq;rw[Gh,CO,CO];have e1:∀l:List Int,(l.any fun x=>!q.us.any fun y=>y==x)=(l.any fun x=>!q.us.any fun y=>x==y):=fun l=>by
  congr 1;funext x;congr 1;congr 1;funext y;rw[Bool.eq_iff_iff,beq_iff_eq,beq_iff_eq];exact ⟨Eq.symm,Eq.symm⟩
 rw[e1,e1];have e2:q.es.all fS.eD=!(q.es.any fun m=>!m.eD):=by
  rw[List.all_eq_not_any_not]
 rw[e2];by_cases h:(hU q.s).2.err=0
 ·rw[Oj h];simp only[h,decide_true,Bool.and_true,Bool.true_and];unfold bG.us bG.xH bG.xM;simp only[Bool.decide_and];obtain ⟨us,XJ⟩:∃us,us=q.ms.map Mem.user:=⟨_,rfl⟩;rw[<-XJ];generalize decide (q.nt=q.ms.length)=a1;generalize decide (0<=q.past)=a2;generalize decide (q.past<=4611686018427387903)=a9;generalize (tk.all fun x=>(cw x.l).isSome)=a3;generalize cP us=a5;generalize (q.ms.any fun m=>!m.dF)=a6;generalize cP (q.rs.map bW.id)=a7;generalize q.rs.all bW.bL=a8;generalize cP (q.ss.map df.id)=b1;generalize q.ss.all df.bL=b2;generalize (q.es.any fun m=>!m.eD)=b3;generalize ((q.rs.map bW.id).any fun x=>!us.any fun y=>x==y)=b5;generalize ((q.ss.map df.id).any fun x=>!us.any fun y=>x==y)=b6;cases us
  all_goals dsimp only
  all_goals ac_rfl
 ·simp only[h,decide_false,Bool.and_false,Bool.false_and]
end Go.Proofs.YtmbdghclhpboaaaGreat
namespace Go.Proofs.YtmbdghclhpboaaaGreat
open Ev Go.RowKit
def B8(p:Option Int)(x:Int):Bool:=match p with
 | none=>true
 | some p=>decide (p<x)
theorem CN{α:Type}{oi:α->Int}{ok:α->Bool}{mem:Int->Bool}{p:Option Int}{a:α}{r:List α}:jk oi ok mem p (a::r)=((mem (oi a)&&ok a&&B8 p (oi a))&&jk oi ok mem (some (oi a)) r):=by
 cases p<;>rfl
theorem Lj(s:List UInt8):decide ((hU s).2.err=0)=(decide ((parse s).2.err=0)&&decide ((check (parse s).1).2.err=0)):=by
 unfold hU;by_cases h:(parse s).2.err=0
 ·rw[if_pos h,decide_eq_true h,Bool.true_and]
 ·rw[if_neg h,decide_eq_false h,Bool.false_and]
theorem SV{s:List UInt8}{ds:List Dv}(hp:ds.map Dv.x=(parse s).1):∀y∈ds,fV y.x=true:=by
 intro y hy;by_cases hE:(parse s).2.err=0
 ·exact Cp hE _ (by rw[<-hp];exact List.mem_map_of_mem hy)
 ·rw[Cn hE,List.map_eq_nil_iff] at hp;rw[hp] at hy;cases hy
theorem Rz{R:aC}{q:bG}{tk:List dW}(h:q.Rd R)(hk:q.Tk R tk)(h0:q.ms.length<=1000000)(h1:q.rs.length<=1000000)(h2:q.ss.length<=1000000)(h3:q.es.length<=1000000)(h4:∀x∈tk,x.l.length<=x.c/\x.l.length<=9223372036854775807)(h5:q.s.length<=4611686018427387904):CP [] 12 [.agg q.a] [.res R] (lf (bA (xI q tk)) [.res R]):=by
 obtain ⟨o,ho⟩:∃o,o=xI q tk:=⟨_,rfl⟩;rw[<-ho];have gm:=h.ms;have gr:=h.rs;have gs:=h.ss;have ge:=h.es;have gt:=hk.rd;have gn:=hk.nt;have gk:=hk.el;unfold xI at ho;simp only[Bool.and_assoc] at ho;clear h hk;rcases q with ⟨ms,nt,rs,ss,tx,es,past,om,ot,oZ,os,oe,cm,ct,cr,cs,ce⟩;simp only[] at ho gm gr gs ge gt gn gk h0 h1 h2 h3;subst gn;have km:=Oo (c:=cm) gm h0;cases iW:mQ ms
 ·rw[iW] at km ho;simp only[Bool.false_and] at ho;subst ho;refine ag aa rfl ?_;refine eX.of rfl rfl ?_;refine aI.az fun F hF=>?_;repeat' ((conv=>whnf);first|with_reducible apply af<;>intro _|refine aM.drawn aa rfl rfl ?_|with_reducible refine And.intro (aN.mk ⟨_,rfl,rfl⟩) ?_|refine km.g [0] rfl rfl ⟨ko,tU⟩ fun G=>?_|(show F _ _ _;subst hF;refine aI.az fun F hF=>?_)|(show F _ _ _;subst hF)|refine ag aa rfl ?_)
  all_goals (try conv=>whnf)
  all_goals exact ⟨rfl,_,rfl⟩
 rw[iW,Bool.true_and] at ho;rw[iW] at km;refine ag aa rfl ?_;refine eX.of rfl rfl ?_;refine aI.az fun F hF=>?_;repeat' ((conv=>whnf);first|with_reducible apply af<;>intro _|refine aM.drawn aa rfl rfl ?_|with_reducible refine And.intro (aN.mk ⟨_,rfl,rfl⟩) ?_|refine km.g [0] rfl rfl ⟨ko,tU⟩ fun G=>?_|refine EL ?_|(show F _ _ _;subst hF;refine aI.az fun F hF=>?_)|(show F _ _ _;subst hF)|refine ag aa rfl ?_)
 all_goals (try conv=>whnf)
 ·rename_i hx;have aP:¬tk.length=ms.length:=fun e=>by rw[e] at hx;simp at hx
  rw[decide_eq_false aP,Bool.false_and] at ho;exact ⟨fe ho.symm,_,rfl⟩
 rotate_left
 ·rename_i hx;rw[hx,Bool.false_and,Bool.and_false] at ho;exact ⟨fe ho.symm,_,rfl⟩
 rename_i hx hy;rw[hy,Bool.true_and] at ho;have aP:tk.length=ms.length:=Int.ofNat.inj (by simpa using hx);rw[decide_eq_true aP,Bool.true_and] at ho;clear hx hy;obtain ⟨r4,vB⟩:∃r4,r4=decide ((hU (bG.s ⟨ms,tk.length,rs,ss,tx,es,past,om,ot,oZ,os,oe,cm,ct,cr,cs,ce⟩)).2.err=0):=⟨_,rfl⟩;rw[<-vB] at ho;obtain ⟨r3,qo⟩:∃r3,r3=(es.all fS.eD&&r4):=⟨_,rfl⟩;rw[<-qo] at ho;obtain ⟨r2,kH⟩:∃r2,r2=(jk df.id df.bL (fun u=>(bG.us ⟨ms,tk.length,rs,ss,tx,es,past,om,ot,oZ,os,oe,cm,ct,cr,cs,ce⟩).any fun y=>y==u) none ss&&r3):=⟨_,rfl⟩;rw[<-kH] at ho;obtain ⟨r1,KN⟩:∃r1,r1=(jk bW.id bW.bL (fun u=>(bG.us ⟨ms,tk.length,rs,ss,tx,es,past,om,ot,oZ,os,oe,cm,ct,cr,cs,ce⟩).any fun y=>y==u) none rs&&r2):=⟨_,rfl⟩;rw[<-KN] at ho;refine aV aa rfl (fun i:Nat=>[(1,.ptr 1 0),(3,iA (i:Nat))]) (fun _=>[.res R,.cells (bG.a ⟨ms,tk.length,rs,ss,tx,es,past,om,ot,oZ,os,oe,cm,ct,cr,cs,ce⟩) 28]) (fun i=>i<=tk.length/\o=((tk.drop i).all (fun x=>(cw x.l).isSome)&&r1)) (fun i=>tk.length - i) 0 ⟨Nat.zero_le _,ho⟩ [0,1] ⟨rfl,⟨rr,rr,tU⟩,⟨ko,⟨_,rfl,rfl⟩,tU⟩⟩ ?_;rintro i ⟨hi,he⟩;clear ho;by_cases an:i<tk.length
 ·have iS:tk[i]∈tk:=List.getElem_mem an;have kt:=R6 (c:=tk[i].c) (gk _ iS) (h4 _ iS).1 (h4 _ iS).2;obtain ⟨a,rfl,bu⟩:=gt.at an;have k3:=fun w S hw=>bu w S hw i an;rw[List.drop_eq_getElem_cons an,List.all_cons,Bool.and_assoc] at he;obtain ⟨y,hy⟩:∃y,y=tk[i]:=⟨_,rfl⟩;rw[<-hy] at kt he;simp only[<-hy] at k3;refine aI.az fun F2 cf=>?_;repeat' ((conv=>whnf);first|with_reducible apply af<;>intro _|refine aM.drawn aa rfl rfl ?_|with_reducible refine And.intro (aN.mk ⟨_,rfl,rfl⟩) ?_|(exfalso;exact bT an (by assumption))|refine al.bC aa rfl rfl rfl rfl rfl an ?_|refine al.aR (i:=0) (v:=.lit (lN y)) rfl k3 rfl rfl ?_|refine kt.g [0] rfl rfl ⟨ko,tU⟩ fun G=>?_|(show F2 _ _ _;subst cf;refine aI.az fun F2 cf=>?_)|(show F2 _ _ _;subst cf)|(show F _ _ _;subst hF;refine aI.az fun F hF=>?_)|(show F _ _ _;subst hF)|refine ag aa rfl ?_)
  all_goals (try conv=>whnf)
  all_goals rename_i hx
  all_goals rw[hx] at he
  all_goals first
   | exact ⟨fe he.symm,_,rfl⟩
   | exact ⟨i+1,[0,1],⟨⟨an,he⟩,Nat.sub_lt_sub_left an (Nat.lt_succ_self _)⟩,rfl,⟨rr,⟨rfl,ax rfl (ak (by omega) (by omega))⟩,tU⟩,⟨ko,⟨_,rfl,rfl⟩,tU⟩⟩
   | trace_state
 obtain rfl:i=tk.length:=by omega
 obtain ⟨M,hM⟩:∃M:Int->Bool,M=fun u=>(ms.map Mem.user).any fun y=>y==u:=⟨_,rfl⟩;have Ir:∀u,((ms.map Mem.user).any fun y=>y==u)=M u:=fun u=>by rw[hM]
 have KN:r1=(jk bW.id bW.bL M none rs&&r2):=by rw[hM];exact KN
 have kH:r2=(jk df.id df.bL M none ss&&r3):=by rw[hM];exact kH
 rw[List.drop_length,List.all_nil,Bool.true_and,KN] at he;clear KN hM;repeat' ((conv=>whnf);first|with_reducible apply af<;>intro _|refine aM.drawn aa rfl rfl ?_|with_reducible refine And.intro (aN.mk ⟨_,rfl,rfl⟩) ?_|(exfalso;exact cF an (by assumption))|(show F _ _ _;subst hF;refine aI.az fun F hF=>?_)|(show F _ _ _;subst hF)|refine ag aa rfl ?_)
 clear an hi;refine aV aa rfl (fun i:Nat=>[(1,.ptr 1 0),(4,iA (i:Nat))]) (fun _=>[.res R,.cells (bG.a ⟨ms,tk.length,rs,ss,tx,es,past,om,ot,oZ,os,oe,cm,ct,cr,cs,ce⟩) 28]) (fun i=>i<=rs.length/\∃p,((i=0/\p=none)\/∃j,∃hj:j<rs.length,i=j+1/\p=some rs[j].id)/\o=(jk bW.id bW.bL M p (rs.drop i)&&r2)) (fun i=>rs.length - i) 0 ⟨Nat.zero_le _,none,.inl ⟨rfl,rfl⟩,he⟩ [0,1] ⟨rfl,⟨rr,rr,tU⟩,⟨ko,⟨_,rfl,rfl⟩,tU⟩⟩ ?_;clear he;rintro i ⟨hi,p,hp,he⟩;by_cases an:i<rs.length
 ·have kf:=EG (c:=cm) (u:=rs[i].id) gm h0;rw[Ir] at kf;obtain ⟨a,rfl,bu⟩:=gr.at an;have cQ:lg Tryz.prog R 72 4 a yS rs:=bu;have k3:=fun w S hw=>bu w S hw i an;rw[List.drop_eq_getElem_cons an,CN] at he;have ik:o=(jk bW.id bW.bL M (some rs[i].id) (rs.drop (i+1))&&r2)->i+1<=rs.length/\∃p,((i+1=0/\p=none)\/∃j,∃hj:j<rs.length,i+1=j+1/\p=some rs[j].id)/\o=(jk bW.id bW.bL M p (rs.drop (i+1))&&r2):=fun e=>⟨an,some rs[i].id,.inr ⟨i,an,rfl,rfl⟩,e⟩;rcases hp with ⟨rfl,rfl⟩|⟨j,hj,rfl,rfl⟩
  ·obtain ⟨y,hy⟩:∃y,y=rs[0]:=⟨_,rfl⟩;rw[<-hy] at kf he ik;simp only[<-hy] at k3;obtain ⟨b,hb⟩:∃b,b=M y.id:=⟨_,rfl⟩;rw[<-hb] at kf he;generalize jk bW.id bW.bL M (some y.id) (rs.drop (0+1))=q at he ik;unfold bW.bL fits at he;refine aI.az fun F2 cf=>?_;repeat' ((conv=>whnf);first|with_reducible apply af<;>intro _|refine aM.drawn aa rfl rfl ?_|with_reducible refine And.intro (aN.mk ⟨_,rfl,rfl⟩) ?_|(exfalso;exact bT an (by assumption))|refine al.bC aa rfl rfl rfl rfl rfl an ?_|refine al.kN aa rfl rfl rfl rfl rfl rfl ?_|refine al.aR (i:=0) (v:=.agg (lE y)) rfl k3 rfl rfl ?_|(refine kf.use [0] rfl rfl ⟨ko,tU⟩ ?_;rintro _ _ ⟨z0,rfl,G,rfl⟩;refine ⟨[],?_⟩)|refine EL ?_|refine ky.mk ?_ ?_|(show F2 _ _ _;subst cf;refine aI.az fun F2 cf=>?_)|(show F2 _ _ _;subst cf)|(show F _ _ _;subst hF;refine aI.az fun F hF=>?_)|(show F _ _ _;subst hF)|refine ag aa rfl ?_)
   all_goals (try conv=>whnf)
   all_goals clear gm gr gs ge gt gk kf bu cQ k3 Ir hb hy h4 kH qo vB
   all_goals first
    | (refine ⟨fe ?_,_,rfl⟩
       rw[he]
       clear he ik
       first
        | (simp_all;done)
        | (simp_all;omega))
    | (refine ⟨0+1,[0,1],⟨ik ?_,Nat.sub_lt_sub_left an (Nat.lt_succ_self _)⟩,rfl,⟨rr,⟨rfl,ax rfl (ak (by omega) (by omega))⟩,tU⟩,⟨ko,⟨_,rfl,rfl⟩,tU⟩⟩
       rw[he]
       clear he ik
       unfold B8
       first
        | (simp_all;done)
        | (simp_all;omega))
  ·have k0:=lg.j8 (j:=0) (u:=.int .i64 rs[j].id) (ty2:=3) aa cQ ⟨_,rfl,rfl⟩ hj ⟨_,rfl,rfl⟩ rfl;have hw:IntKind.i64.wrap (((j+1:Nat):Int) - 1)=((j:Nat):Int):=by rw[ak (by omega) (by omega)];omega
   obtain ⟨y,hy⟩:∃y,y=rs[j+1]:=⟨_,rfl⟩;obtain ⟨z,hz⟩:∃z,z=rs[j]:=⟨_,rfl⟩;rw[<-hz] at k0 he;rw[<-hy] at kf he ik;simp only[<-hy] at k3;obtain ⟨b,hb⟩:∃b,b=M y.id:=⟨_,rfl⟩;rw[<-hb] at kf he;generalize jk bW.id bW.bL M (some y.id) (rs.drop (j+1+1))=q at he ik;unfold bW.bL fits at he;refine aI.az fun F2 cf=>?_;repeat' ((conv=>whnf);first|with_reducible apply af<;>intro _|refine aM.drawn aa rfl rfl ?_|with_reducible refine And.intro (aN.mk ⟨_,rfl,rfl⟩) ?_|(exfalso;exact bT an (by assumption))|refine al.bC aa rfl rfl rfl rfl rfl an ?_|refine al.Gd (k:=j) aa rfl rfl rfl rfl rfl hw hj ?_|refine al.kN aa rfl rfl rfl rfl rfl rfl ?_|refine al.aR (i:=0) (v:=.agg (lE y)) rfl k3 rfl rfl ?_|refine al.aR (i:=0) (v:=iA z.id) rfl k0 rfl rfl ?_|(refine kf.use [0] rfl rfl ⟨ko,tU⟩ ?_;rintro _ _ ⟨z0,rfl,G,rfl⟩;refine ⟨[],?_⟩)|refine EL ?_|refine ky.mk ?_ ?_|(show F2 _ _ _;subst cf;refine aI.az fun F2 cf=>?_)|(show F2 _ _ _;subst cf)|(show F _ _ _;subst hF;refine aI.az fun F hF=>?_)|(show F _ _ _;subst hF)|refine ag aa rfl ?_)
   all_goals (try conv=>whnf)
   all_goals clear gm gr gs ge gt gk kf bu cQ k3 k0 Ir hb hy hz h4 kH qo vB
   all_goals first
    | (refine ⟨fe ?_,_,rfl⟩
       rw[he]
       clear he ik
       unfold B8
       first
        | (simp_all;done)
        | (simp_all;omega))
    | (refine ⟨j+1+1,[0,1],⟨ik ?_,Nat.sub_lt_sub_left an (Nat.lt_succ_self _)⟩,rfl,⟨rr,⟨rfl,ax rfl (ak (by omega) (by omega))⟩,tU⟩,⟨ko,⟨_,rfl,rfl⟩,tU⟩⟩
       rw[he]
       clear he ik
       unfold B8
       first
        | (simp_all;done)
        | (simp_all;omega))
 obtain rfl:i=rs.length:=by omega
 have he:o=r2:=by rw[he,List.drop_length,jk,Bool.true_and]
 clear hp;rw[kH] at he;clear kH;repeat' ((conv=>whnf);first|with_reducible apply af<;>intro _|refine aM.drawn aa rfl rfl ?_|with_reducible refine And.intro (aN.mk ⟨_,rfl,rfl⟩) ?_|(exfalso;exact cF an (by assumption))|(show F _ _ _;subst hF;refine aI.az fun F hF=>?_)|(show F _ _ _;subst hF)|refine ag aa rfl ?_)
 clear an hi;refine aV aa rfl (fun i:Nat=>[(1,.ptr 1 0),(8,iA (i:Nat))]) (fun _=>[.res R,.cells (bG.a ⟨ms,tk.length,rs,ss,tx,es,past,om,ot,oZ,os,oe,cm,ct,cr,cs,ce⟩) 28]) (fun i=>i<=ss.length/\∃p,((i=0/\p=none)\/∃j,∃hj:j<ss.length,i=j+1/\p=some ss[j].id)/\o=(jk df.id df.bL M p (ss.drop i)&&r3)) (fun i=>ss.length - i) 0 ⟨Nat.zero_le _,none,.inl ⟨rfl,rfl⟩,he⟩ [0,1] ⟨rfl,⟨rr,rr,tU⟩,⟨ko,⟨_,rfl,rfl⟩,tU⟩⟩ ?_;clear he;rintro i ⟨hi,p,hp,he⟩;by_cases an:i<ss.length
 ·have kf:=EG (c:=cm) (u:=ss[i].id) gm h0;rw[Ir] at kf;obtain ⟨a,rfl,bu⟩:=gs.at an;have cQ:lg Tryz.prog R 78 6 a JK ss:=bu;have k3:=fun w S hw=>bu w S hw i an;rw[List.drop_eq_getElem_cons an,CN] at he;have ik:o=(jk df.id df.bL M (some ss[i].id) (ss.drop (i+1))&&r3)->i+1<=ss.length/\∃p,((i+1=0/\p=none)\/∃j,∃hj:j<ss.length,i+1=j+1/\p=some ss[j].id)/\o=(jk df.id df.bL M p (ss.drop (i+1))&&r3):=fun e=>⟨an,some ss[i].id,.inr ⟨i,an,rfl,rfl⟩,e⟩;rcases hp with ⟨rfl,rfl⟩|⟨j,hj,rfl,rfl⟩
  ·obtain ⟨y,hy⟩:∃y,y=ss[0]:=⟨_,rfl⟩;rw[<-hy] at kf he ik;simp only[<-hy] at k3;obtain ⟨b,hb⟩:∃b,b=M y.id:=⟨_,rfl⟩;rw[<-hb] at kf he;generalize jk df.id df.bL M (some y.id) (ss.drop (0+1))=q at he ik;unfold df.bL at he;refine aI.az fun F2 cf=>?_;repeat' ((conv=>whnf);first|with_reducible apply af<;>intro _|refine aM.drawn aa rfl rfl ?_|with_reducible refine And.intro (aN.mk ⟨_,rfl,rfl⟩) ?_|(exfalso;exact bT an (by assumption))|refine al.bC aa rfl rfl rfl rfl rfl an ?_|refine al.kN aa rfl rfl rfl rfl rfl rfl ?_|refine al.aR (i:=0) (v:=.agg (pG y)) rfl k3 rfl rfl ?_|(refine kf.use [0] rfl rfl ⟨ko,tU⟩ ?_;rintro _ _ ⟨z0,rfl,G,rfl⟩;refine ⟨[],?_⟩)|refine EL ?_|refine tQ ?_|refine ky.mk ?_ ?_|(show F2 _ _ _;subst cf;refine aI.az fun F2 cf=>?_)|(show F2 _ _ _;subst cf)|(show F _ _ _;subst hF;refine aI.az fun F hF=>?_)|(show F _ _ _;subst hF)|refine ag aa rfl ?_)
   all_goals (try conv=>whnf)
   all_goals clear gm gr gs ge gt gk kf bu cQ k3 Ir hb hy h4 qo vB
   all_goals first
    | (refine ⟨fe ?_,_,rfl⟩
       rw[he]
       clear he ik
       first
        | (simp_all;done)
        | (simp_all;omega))
    | (refine ⟨0+1,[0,1],⟨ik ?_,Nat.sub_lt_sub_left an (Nat.lt_succ_self _)⟩,rfl,⟨rr,⟨rfl,ax rfl (ak (by omega) (by omega))⟩,tU⟩,⟨ko,⟨_,rfl,rfl⟩,tU⟩⟩
       rw[he]
       clear he ik
       unfold B8
       first
        | (simp_all;done)
        | (simp_all;omega))
  ·have k0:=lg.j8 (j:=0) (u:=.int .i64 ss[j].id) (ty2:=3) aa cQ ⟨_,rfl,rfl⟩ hj ⟨_,rfl,rfl⟩ rfl;have hw:IntKind.i64.wrap (((j+1:Nat):Int) - 1)=((j:Nat):Int):=by rw[ak (by omega) (by omega)];omega
   obtain ⟨y,hy⟩:∃y,y=ss[j+1]:=⟨_,rfl⟩;obtain ⟨z,hz⟩:∃z,z=ss[j]:=⟨_,rfl⟩;rw[<-hz] at k0 he;rw[<-hy] at kf he ik;simp only[<-hy] at k3;obtain ⟨b,hb⟩:∃b,b=M y.id:=⟨_,rfl⟩;rw[<-hb] at kf he;generalize jk df.id df.bL M (some y.id) (ss.drop (j+1+1))=q at he ik;unfold df.bL at he;refine aI.az fun F2 cf=>?_;repeat' ((conv=>whnf);first|with_reducible apply af<;>intro _|refine aM.drawn aa rfl rfl ?_|with_reducible refine And.intro (aN.mk ⟨_,rfl,rfl⟩) ?_|(exfalso;exact bT an (by assumption))|refine al.bC aa rfl rfl rfl rfl rfl an ?_|refine al.Gd (k:=j) aa rfl rfl rfl rfl rfl hw hj ?_|refine al.kN aa rfl rfl rfl rfl rfl rfl ?_|refine al.aR (i:=0) (v:=.agg (pG y)) rfl k3 rfl rfl ?_|refine al.aR (i:=0) (v:=iA z.id) rfl k0 rfl rfl ?_|(refine kf.use [0] rfl rfl ⟨ko,tU⟩ ?_;rintro _ _ ⟨z0,rfl,G,rfl⟩;refine ⟨[],?_⟩)|refine EL ?_|refine tQ ?_|refine ky.mk ?_ ?_|(show F2 _ _ _;subst cf;refine aI.az fun F2 cf=>?_)|(show F2 _ _ _;subst cf)|(show F _ _ _;subst hF;refine aI.az fun F hF=>?_)|(show F _ _ _;subst hF)|refine ag aa rfl ?_)
   all_goals (try conv=>whnf)
   all_goals clear gm gr gs ge gt gk kf bu cQ k3 k0 Ir hb hy hz h4 qo vB
   all_goals first
    | (refine ⟨fe ?_,_,rfl⟩
       rw[he]
       clear he ik
       unfold B8
       first
        | (simp_all;done)
        | (simp_all;omega))
    | (refine ⟨j+1+1,[0,1],⟨ik ?_,Nat.sub_lt_sub_left an (Nat.lt_succ_self _)⟩,rfl,⟨rr,⟨rfl,ax rfl (ak (by omega) (by omega))⟩,tU⟩,⟨ko,⟨_,rfl,rfl⟩,tU⟩⟩
       rw[he]
       clear he ik
       unfold B8
       first
        | (simp_all;done)
        | (simp_all;omega))
 obtain rfl:i=ss.length:=by omega
 have he:o=r3:=by rw[he,List.drop_length,jk,Bool.true_and]
 clear hp;rw[qo] at he;clear qo;repeat' ((conv=>whnf);first|with_reducible apply af<;>intro _|refine aM.drawn aa rfl rfl ?_|with_reducible refine And.intro (aN.mk ⟨_,rfl,rfl⟩) ?_|(exfalso;exact cF an (by assumption))|(show F _ _ _;subst hF;refine aI.az fun F hF=>?_)|(show F _ _ _;subst hF)|refine ag aa rfl ?_)
 clear an hi;refine aV aa rfl (fun i:Nat=>[(1,.ptr 1 0),(12,iA (i:Nat))]) (fun _=>[.res R,.cells (bG.a ⟨ms,tk.length,rs,ss,tx,es,past,om,ot,oZ,os,oe,cm,ct,cr,cs,ce⟩) 28]) (fun i=>i<=es.length/\o=((es.drop i).all fS.eD&&r4)) (fun i=>es.length - i) 0 ⟨Nat.zero_le _,he⟩ [0,1] ⟨rfl,⟨rr,rr,tU⟩,⟨ko,⟨_,rfl,rfl⟩,tU⟩⟩ ?_;clear he;rintro i ⟨hi,he⟩;by_cases an:i<es.length
 ·obtain ⟨a,rfl,bu⟩:=ge.at an;have k3:=fun w S hw=>bu w S hw i an;rw[List.drop_eq_getElem_cons an,List.all_cons] at he;obtain ⟨y,hy⟩:∃y,y=es[i]:=⟨_,rfl⟩;rw[<-hy] at he;simp only[<-hy] at k3;obtain ⟨q,hq⟩:∃q,q=(es.drop (i+1)).all fS.eD:=⟨_,rfl⟩;have ik:o=(q&&r4)->o=((es.drop (i+1)).all fS.eD&&r4):=fun e=>by rw[e,hq]
  rw[<-hq] at he;clear hq;unfold fS.eD at he;refine aI.az fun F2 cf=>?_;repeat' ((conv=>whnf);first|with_reducible apply af<;>intro _|refine aM.drawn aa rfl rfl ?_|with_reducible refine And.intro (aN.mk ⟨_,rfl,rfl⟩) ?_|(exfalso;exact bT an (by assumption))|refine al.bC aa rfl rfl rfl rfl rfl an ?_|refine al.kN aa rfl rfl rfl rfl rfl rfl ?_|refine al.aR (i:=0) (v:=.agg (Bt y)) rfl k3 rfl rfl ?_|refine EL ?_|refine ky.mk ?_ ?_|(show F2 _ _ _;subst cf;refine aI.az fun F2 cf=>?_)|(show F2 _ _ _;subst cf)|(show F _ _ _;subst hF;refine aI.az fun F hF=>?_)|(show F _ _ _;subst hF)|refine ag aa rfl ?_)
  all_goals (try conv=>whnf)
  all_goals clear gm gr gs ge gt gk bu k3 Ir hy h4 vB
  all_goals first
   | (refine ⟨fe ?_,_,rfl⟩
      rw[he]
      clear he ik
      first
       | (simp_all;done)
       | (simp_all;omega))
   | (refine ⟨i+1,[0,1],⟨⟨an,ik ?_⟩,Nat.sub_lt_sub_left an (Nat.lt_succ_self _)⟩,rfl,⟨rr,⟨rfl,ax rfl (ak (by omega) (by omega))⟩,tU⟩,⟨ko,⟨_,rfl,rfl⟩,tU⟩⟩
      rw[he]
      clear he ik
      first
       | (simp_all;done)
       | (simp_all;omega))
 obtain rfl:i=es.length:=by omega
 have he:o=r4:=by rw[he,List.drop_length,List.all_nil,Bool.true_and]
 have vB:r4=decide ((hU tx.data.toList).2.err=0):=vB;rw[vB,Lj] at he;clear vB hi;have kP:=RH (s:=tx.data.toList) h5;clear gm gr gs ge gt gk h4 Ir h5;repeat' ((conv=>whnf);first|with_reducible apply af<;>intro _|refine aM.drawn aa rfl rfl ?_|with_reducible refine And.intro (aN.mk ⟨_,rfl,rfl⟩) ?_|(exfalso;exact cF an (by assumption))|(refine kP.use [] rfl rfl trivial ?_;rintro _ _ ⟨A,m,ds,R2,hp,⟨hds,gA⟩,rfl,G,rfl⟩;refine ⟨[0],?_⟩)|(refine aj.nY 2 rfl gA fun hc=>?_;refine (Oi (c:=m) hds hc (SV hp)).use [2] rfl rfl ⟨ko,tU⟩ ?_;rintro _ _ ⟨A2,n2,q2,e,l,c,rfl,Tg,G2,rfl⟩;refine ⟨[],?_⟩)|(show F _ _ _;subst hF;refine aI.az fun F hF=>?_)|(show F _ _ _;subst hF)|refine ag aa rfl ?_)
 all_goals (try conv=>whnf)
 all_goals try rw[hp] at Tg
 ·rename_i h1 h2;have e1:(parse tx.data.toList).2.err=0:=by
   have:=eq_of_beq h1;omega
  have e2:e=0:=by
   have:=eq_of_beq h2;omega
  exact ⟨fe (by rw[he,decide_eq_true e1,decide_eq_true (Tg.1 e2)];rfl),_,rfl⟩
 ·rename_i h1 h2;have e2:¬e=0:=fun e2=>by
   rw[e2] at h2;simp at h2
  exact ⟨fe (by rw[he,decide_eq_false (fun h=>e2 (Tg.2 h)),Bool.and_false]),_,rfl⟩
 ·rename_i h1;have e1:¬(parse tx.data.toList).2.err=0:=fun e1=>by
   rw[e1] at h1;simp at h1
  exact ⟨fe (by rw[he,decide_eq_false e1,Bool.false_and]),_,rfl⟩
