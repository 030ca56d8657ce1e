/- Part of the proof: Rf22b Rf22c Rf22d Rf22e. Conditions: as each states. -/
import Derived.Test.YtmbdghclhpboaaaGreatPw40
set_option linter.all false
set_option maxRecDepth 100000
set_option maxHeartbeats 8000000
namespace Go.Proofs.YtmbdghclhpboaaaGreat
open Ev Go.RowKit
def kE(l:List dN)(s:Nat):Bool:=decide (0<s)&&l.any fun k=>decide (k.bC=s)
theorem DZ(l:List dN)(s:Nat):(mc l s).isSome=kE l s:=by
 unfold mc kE;by_cases h:s=0
 ·rw[if_pos h,h];rfl
 ·rw[if_neg h,decide_eq_true (by omega:0<s),Bool.true_and,List.findIdx?_isSome]
theorem DD{R:aH}{oa:Option Addr}{c i:Nat}{l:List dN}{s:Nat}(h:eG Tryz.prog R 96 10 oa ux l)(hi:i<=l.length)(hn:l.length<=9223372036854775807):CP [] 92 [.lit (.slice oa i c),uA s] [.res R] (fun v H'=>∃z:dN,v=.tuple [.agg ((tC z).map .lit),bA (kE (l.take i) s)]/\∃G,H'=.res R::G):=by
 obtain ⟨o,ho⟩:∃o,o=kE (l.take i) s:=⟨_,rfl⟩;rw[<-ho];unfold kE at ho;refine ae U rfl ?_;conv=>whnf
 refine aW U rfl (fun j:Nat=>[(0,.lit (.slice oa i c)),(1,uA s),(4,.ptr 1 0),(6,iA (j:Nat))]) (fun _=>[.res R,.cells ((tC ⟨0,0,⟨0,0,0,0,0,0,false,0⟩⟩).map .lit) 96]) (fun j=>j<=i/\o=(decide (0<s)&&((l.take i).drop j).any fun k=>decide (k.bC=s))) (fun j=>i - j) 0 ⟨Nat.zero_le _,ho⟩ [0,1] ⟨rfl,⟨rr,rr,rr,rr,tU⟩,⟨ko,⟨_,rfl,rfl⟩,tU⟩⟩ ?_;rintro j ⟨hj,he⟩;clear ho;by_cases h0:0<s
 ·rw[decide_eq_true h0,Bool.true_and] at he;by_cases ah:j<i
  ·have o9:j<l.length:=by omega
   obtain ⟨a,rfl,bq⟩:=h.at o9;rw[List.drop_eq_getElem_cons (by rw[List.length_take];omega),List.any_cons,List.getElem_take] at he;have dK:kn Tryz.prog R 96 10 a ux l:=bq;have k1:=kn.jx (j:=0) (u:=.int .u64 l[j].bC) (ty2:=47) U dK ⟨_,rfl,rfl⟩ o9 ⟨_,rfl,rfl⟩ rfl;have k3:=fun w S hw=>bq w S hw j o9;obtain ⟨y,hy⟩:∃y,y=l[j]:=⟨_,rfl⟩;rw[<-hy] at he k1;simp only[<-hy] at k3;repeat' ((conv=>whnf);first|with_reducible apply aa<;>intro _|(exfalso;exact ck ah (by assumption))|(exfalso;rename_i hx;exact of_decide_eq_false hx (Int.ofNat_lt.2 h0))|refine ai.bJ U rfl rfl rfl rfl rfl ah ?_|refine ai.jW U rfl rfl rfl rfl rfl rfl ?_|refine ai.aR (i:=0) (v:=uA y.bC) rfl k1 rfl rfl ?_|refine ai.aR (i:=0) (v:=.agg ((tC y).map .lit)) rfl k3 rfl rfl ?_|refine ae U rfl ?_)
   all_goals (try conv=>whnf)
   ·rename_i hk;rw[show decide (y.bC=s)=true from LY.symm.trans hk,Bool.true_or] at he;subst he;exact ⟨y,rfl,_,rfl⟩
   ·rename_i hk;rw[show decide (y.bC=s)=false from LY.symm.trans hk,Bool.false_or] at he;exact ⟨j+1,[0,1],⟨⟨ah,by rw[decide_eq_true h0,Bool.true_and];exact he⟩,Nat.sub_lt_sub_left ah (Nat.lt_succ_self _)⟩,rfl,⟨rr,rr,rr,⟨rfl,aw rfl (aj (by omega) (by omega))⟩,tU⟩,⟨ko,⟨_,rfl,rfl⟩,tU⟩⟩
  ·obtain rfl:j=i:=by omega
   rw[List.drop_of_length_le (by rw[List.length_take];omega),List.any_nil] at he;subst he;repeat' ((conv=>whnf);first|with_reducible apply aa<;>intro _|(exfalso;exact cI ah (by assumption))|refine ae U rfl ?_)
   all_goals (try conv=>whnf)
   all_goals exact ⟨⟨0,0,⟨0,0,0,0,0,0,false,0⟩⟩,rfl,_,rfl⟩
 ·rw[decide_eq_false h0,Bool.false_and] at he;subst he;repeat' ((conv=>whnf);first|with_reducible apply aa<;>intro _|(exfalso;rename_i hx;exact h0 (Int.ofNat_lt.1 (of_decide_eq_true hx)))|refine ae U rfl ?_)
  all_goals (try conv=>whnf)
  all_goals exact ⟨⟨0,0,⟨0,0,0,0,0,0,false,0⟩⟩,rfl,_,rfl⟩
def Ka(acc:List dN)(k:dN):Bool:=!(decide (k.bC=0) || kE acc k.bC || (decide (0<k.parent)&&!kE acc k.parent) || !k.g.right)
theorem BW(acc r:List dN)(k:dN):(dE (k::r) acc).isSome=(Ka acc k&&(dE r (acc++[k])).isSome):=by
 rw[dE,DZ,<-Option.not_isSome,DZ];unfold Ka;rw[show decide (k.parent≠0)=decide (0<k.parent) by rw[decide_eq_decide];omega];generalize kE acc k.bC=a;generalize kE acc k.parent=b;generalize decide (k.bC=0)=c;generalize decide (0<k.parent)=d;generalize k.g.right=e;cases a<;>cases b<;>cases c<;>cases d<;>cases e<;>simp
theorem PD{R:aH}{oa:Option Addr}{c:Nat}{l:List dN}(h:eG Tryz.prog R 96 10 oa ux l)(hc:l.length<=c)(hn:l.length<=9223372036854775807):CP [] 31 [.lit (.slice oa l.length c)] [.res R] (kl (bA (cg l).isSome) [.res R]):=by
 have hT:(cg l).isSome=(decide (l.length<=8)&&(dE l []).isSome):=by
  unfold cg;by_cases h8:8<l.length
  ·rw[if_pos h8,decide_eq_false (by omega)];rfl
  ·rw[if_neg h8,decide_eq_true (by omega),Bool.true_and]
 obtain ⟨o,ho⟩:∃o,o=(dE l []).isSome:=⟨_,rfl⟩;rw[hT,<-ho];clear hT;refine ae U rfl ?_;conv=>whnf
 refine aW U rfl (fun i:Nat=>[(0,.lit (.slice oa l.length c)),(3,iA (i:Nat))]) (fun _=>[.res R]) (fun i=>i<=l.length/\o=(dE (l.drop i) (l.take i)).isSome) (fun i=>l.length - i) 0 ⟨Nat.zero_le _,ho⟩ [0] ⟨rfl,⟨rr,rr,tU⟩,⟨ko,tU⟩⟩ ?_;rintro i ⟨hi,he⟩;clear ho;by_cases ah:i<l.length
 ·have EH:=DD (c:=c) (s:=l[i].bC) h (Nat.le_of_lt ah) hn;have r7:=DD (c:=c) (s:=l[i].parent) h (Nat.le_of_lt ah) hn;obtain ⟨a,rfl,bq⟩:=h.at ah;rw[List.drop_eq_getElem_cons ah,BW,<-bf ah] at he;have dK:kn Tryz.prog R 96 10 a ux l:=bq;have k1:=kn.jx (j:=0) (u:=.int .u64 l[i].bC) (ty2:=47) U dK ⟨_,rfl,rfl⟩ ah ⟨_,rfl,rfl⟩ rfl;have k2:=kn.jx (j:=1) (u:=.int .u64 l[i].parent) (ty2:=47) U dK ⟨_,rfl,rfl⟩ ah ⟨_,rfl,rfl⟩ rfl;have k3:=kn.yw (j:=2) (n2:=8) (cs:=(tC l[i]).drop 2) (ty2:=94) U dK ⟨_,rfl,rfl⟩ ah ⟨_,rfl,rfl,rfl⟩ rfl rfl;obtain ⟨y,hy⟩:∃y,y=l[i]:=⟨_,rfl⟩;rw[<-hy] at he k1 k2 k3 EH r7;unfold Ka at he;clear bq dK hy;refine aF.au fun F2 bR=>?_;repeat' ((conv=>whnf);first|with_reducible apply aa<;>intro _|refine aJ.drawn U rfl rfl ?_|with_reducible refine And.intro (aG.mk ⟨_,rfl,rfl⟩) ?_|(exfalso;exact ck ah (by assumption))|refine ai.bJ U rfl rfl rfl rfl rfl ah ?_|refine ai.jW U rfl rfl rfl rfl rfl rfl ?_|refine ai.It (j:=i) U rfl rfl rfl rfl rfl rfl (by omega) ?_|refine ai.aR (i:=0) (v:=uA y.bC) rfl k1 rfl rfl ?_|refine ai.aR (i:=0) (v:=uA y.parent) rfl k2 rfl rfl ?_|refine ai.aR (i:=0) (v:=.agg (((tC y).drop 2).map .lit)) rfl k3 rfl rfl ?_|(refine EH.use [0] rfl rfl ⟨ko,tU⟩ ?_;rintro _ _ ⟨rv,rfl,G,rfl⟩;refine ⟨[],?_⟩)|(refine r7.use [0] rfl rfl ⟨ko,tU⟩ ?_;rintro _ _ ⟨rv2,rfl,G,rfl⟩;refine ⟨[],?_⟩)|refine RS (g:=y.g) ?_|refine jJ.mk ?_ ?_|(show F2 _ _ _;subst bR;refine aF.au fun F2 bR=>?_)|(show F2 _ _ _;subst bR)|(show F _ _ _;subst hF;refine aF.au fun F hF=>?_)|(show F _ _ _;subst hF)|refine ae U rfl ?_)
  all_goals (try conv=>whnf)
  all_goals clear k1 k2 k3 EH r7 h
  all_goals first
   | (refine ⟨eB ?_,_,rfl⟩
      rw[he]
      generalize (dE (l.drop (i+1)) (l.take (i+1))).isSome=q
      generalize kE (l.take i) y.bC=t1 at *
      generalize kE (l.take i) y.parent=t2 at *
      generalize y.g.right=t3 at *
      clear he
      simp_all
      done)
   | (refine ⟨eB ?_,_,rfl⟩
      rw[he]
      generalize (dE (l.drop (i+1)) (l.take (i+1))).isSome=q
      generalize kE (l.take i) y.bC=t1 at *
      generalize kE (l.take i) y.parent=t2 at *
      generalize y.g.right=t3 at *
      clear he
      simp_all
      omega)
   | (refine ⟨i+1,[0],⟨⟨ah,?_⟩,Nat.sub_lt_sub_left ah (Nat.lt_succ_self _)⟩,rfl,⟨rr,⟨rfl,aw rfl (aj (by omega) (by omega))⟩,tU⟩,⟨ko,tU⟩⟩
      rw[he]
      generalize (dE (l.drop (i+1)) (l.take (i+1))).isSome=q
      generalize kE (l.take i) y.bC=t1 at *
      generalize kE (l.take i) y.parent=t2 at *
      generalize y.g.right=t3 at *
      clear he
      first
       | (simp_all;done)
       | (simp_all;omega))
 ·obtain rfl:i=l.length:=by omega
  rw[List.drop_length,dE,Option.isSome_some] at he;subst he;repeat' ((conv=>whnf);first|with_reducible apply aa<;>intro _|refine aJ.drawn U rfl rfl ?_|with_reducible refine And.intro (aG.mk ⟨_,rfl,rfl⟩) ?_|(exfalso;exact cI ah (by assumption))|refine ae U rfl ?_)
  all_goals (try conv=>whnf)
  all_goals rename_i hx
  all_goals first
   | exact ⟨eB (by rw[Bool.and_true];exact (decide_eq_true (show l.length<=8 from Int.ofNat_le.1 (of_decide_eq_true hx))).symm),_,rfl⟩
   | exact ⟨eB (by rw[Bool.and_true];exact (decide_eq_false (show ¬l.length<=8 from fun h=>of_decide_eq_false hx (Int.ofNat_le.2 h))).symm),_,rfl⟩
def JB(p:Int)(m:Mem):Bool:=(Mem.right { m with k:=0,cf:=0 }&&(decide (m.k=0/\m.cf=0) || decide (1<=m.k/\m.k<=65535)))&&decide (p<m.user)
def mT:Int->List Mem->Bool
 | _,[]=>true
 | p,m::r=>JB p m&&mT m.user r
def l6:List Mem->Bool
 | []=>false
 | m::r=>decide (m.user=0/\m.role=0/\m.jq=0/\m.fH=65535/\m.k=0/\m.cf=0)&&mT m.user r
theorem wD:∀{r:List Mem} {p:Int},0<=p->mT p r=(gL p (r.map Mem.user)&&!(r.any fun m=>!m.da))
 | [],_,_=>rfl
 | m::r,p,hp=>by
   rw[mT,List.map_cons,gL,List.any_cons];unfold JB;by_cases h:p<m.user
   ·rw[wD (show 0<=m.user by omega),decide_eq_true h];unfold Mem.da;rw[if_neg (show ¬m.user=0 by omega)];generalize (Mem.right { m with k:=0,cf:=0 }&&(decide (m.k=0/\m.cf=0) || decide (1<=m.k/\m.k<=65535)))=a;generalize gL m.user (r.map Mem.user)=b;generalize (r.any fun m=>!m.da)=c;cases a<;>cases b<;>cases c<;>rfl
   ·rw[decide_eq_false h,Bool.and_false,Bool.false_and,Bool.false_and,Bool.false_and]
theorem E0(ms:List Mem):l6 ms=((match ms.map Mem.user with|[]=>false|x::_=>x==0)&&(cA (ms.map Mem.user)&&!(ms.any fun m=>!m.da))):=by
 cases ms with
 | nil=>rfl
 | cons m r=>
   rw[List.map_cons,l6,cA,List.any_cons];simp only[];by_cases h:m.user=0
   ·rw[wD (show 0<=m.user by omega)];unfold Mem.da;rw[if_pos h,show (m.user==0)=true from beq_iff_eq.2 h];have e:decide (m.user=0/\m.role=0/\m.jq=0/\m.fH=65535/\m.k=0/\m.cf=0)=decide (m.role=0/\m.jq=0/\m.fH=65535/\m.k=0/\m.cf=0):=by
     rw[decide_eq_decide];exact ⟨fun h=>h.2,fun k=>⟨h,k⟩⟩
    rw[e];generalize decide (m.role=0/\m.jq=0/\m.fH=65535/\m.k=0/\m.cf=0)=a;generalize gL m.user (r.map Mem.user)=b;generalize (r.any fun m=>!(if m.user=0 then decide (m.role=0/\m.jq=0/\m.fH=65535/\m.k=0/\m.cf=0) else Mem.right { m with k:=0,cf:=0 }&&(decide (m.k=0/\m.cf=0) || decide (1<=m.k/\m.k<=65535))))=c;cases a<;>cases b<;>cases c<;>rfl
   ·rw[decide_eq_false (fun k=>h k.1),show (m.user==0)=false from beq_eq_false_iff_ne.2 h];rfl
theorem Mx{R:aH}{oa:Option Addr}{c:Nat}{ms:List Mem}(h:eG Tryz.prog R 51 6 oa mC ms)(hn:ms.length<=1000000):CP [] 29 [.lit (.slice oa ms.length c)] [.res R] (kl (bA (l6 ms)) [.res R]):=by
 obtain ⟨o,ho⟩:∃o,o=l6 ms:=⟨_,rfl⟩;rw[<-ho];refine ae U rfl ?_;conv=>whnf
 refine aW U rfl (fun i:Nat=>[(0,.lit (.slice oa ms.length c)),(3,iA (i:Nat))]) (fun _=>[.res R]) (fun i=>i<=ms.length/\((i=0/\o=l6 ms)\/∃j,∃hj:j<ms.length,i=j+1/\o=mT ms[j].user (ms.drop (j+1)))) (fun i=>ms.length - i) 0 ⟨Nat.zero_le _,.inl ⟨rfl,ho⟩⟩ [0] ⟨rfl,⟨rr,rr,tU⟩,⟨ko,tU⟩⟩ ?_;rintro i ⟨hi,he⟩;clear ho;by_cases ah:i<ms.length
 ·obtain ⟨a,rfl,bq⟩:=h.at ah;have dK:kn Tryz.prog R 51 6 a mC ms:=bq;have k3:=fun w S hw=>bq w S hw i ah;have k4:=kn.yw (j:=4) (n2:=2) (cs:=[.int .i64 ms[i].k,.int .u64 ms[i].cf]) (ty2:=49) U dK ⟨_,rfl,rfl⟩ ah ⟨_,rfl,rfl,rfl⟩ rfl rfl;rcases he with ⟨rfl,he⟩|⟨j,hj,rfl,he⟩
  ·have he:o=(decide (ms[0].user=0/\ms[0].role=0/\ms[0].jq=0/\ms[0].fH=65535/\ms[0].k=0/\ms[0].cf=0)&&mT ms[0].user (ms.drop 1)):=by
    rw[he];cases ms with
    | nil=>exact absurd ah (by simp)
    | cons m r=>rfl
   obtain ⟨y,hy⟩:∃y,y=ms[0]:=⟨_,rfl⟩;have gJ:o=mT y.user (ms.drop (0+1))->∃j,∃hj:j<ms.length,0+1=j+1/\o=mT ms[j].user (ms.drop (j+1)):=fun e=>⟨0,ah,rfl,by rw[hy] at e;exact e⟩;rw[<-hy] at he k4;simp only[<-hy] at k3;have hD:(y.user==0&&(y.role==0&&(y.jq==0&&(y.fH==65535&&(y.k==0&&(y.cf==0&&true))))))=decide (y.user=0/\y.role=0/\y.jq=0/\y.fH=65535/\y.k=0/\y.cf=0):=by
    rw[Bool.eq_iff_iff];simp
   clear bq dK hy;refine aF.au fun F2 bR=>?_;repeat' ((conv=>whnf);first|with_reducible apply aa<;>intro _|refine aJ.drawn U rfl rfl ?_|with_reducible refine And.intro (aG.mk ⟨_,rfl,rfl⟩) ?_|(exfalso;exact ck ah (by assumption))|refine ai.bJ U rfl rfl rfl rfl rfl ah ?_|refine ai.jW U rfl rfl rfl rfl rfl rfl ?_|refine ai.aR (i:=0) (v:=.agg (mA y)) rfl k3 rfl rfl ?_|refine ai.aR (i:=0) (v:=.agg [iA y.k,uA y.cf]) rfl k4 rfl rfl ?_|refine BJ (m:={ y with k:=0,cf:=0 }) ?_|refine HZ ?_|refine jJ.mk ?_ ?_|(show F2 _ _ _;subst bR;refine aF.au fun F2 bR=>?_)|(show F2 _ _ _;subst bR)|(show F _ _ _;subst hF;refine aF.au fun F hF=>?_)|(show F _ _ _;subst hF)|refine ae U rfl ?_)
   all_goals (try conv=>whnf)
   all_goals rename_i hx
   all_goals first
    | rw[hD] at hx
    | skip
   all_goals rw[hx] at he
   all_goals first
    | exact ⟨eB he.symm,_,rfl⟩
    | exact ⟨0+1,[0],⟨⟨ah,.inr (gJ he)⟩,Nat.sub_lt_sub_left ah (Nat.lt_succ_self _)⟩,rfl,⟨rr,⟨rfl,aw rfl (aj (by omega) (by omega))⟩,tU⟩,⟨ko,tU⟩⟩
  ·have k1:=kn.jx (j:=0) (u:=.int .i64 ms[j+1].user) (ty2:=3) U dK ⟨_,rfl,rfl⟩ ah ⟨_,rfl,rfl⟩ rfl;have k0:=kn.jx (j:=0) (u:=.int .i64 ms[j].user) (ty2:=3) U dK ⟨_,rfl,rfl⟩ hj ⟨_,rfl,rfl⟩ rfl;rw[List.drop_eq_getElem_cons ah,mT] at he;obtain ⟨y,hy⟩:∃y,y=ms[j+1]:=⟨_,rfl⟩;obtain ⟨z,hz⟩:∃z,z=ms[j]:=⟨_,rfl⟩;have gJ:o=mT y.user (ms.drop (j+1+1))->∃j',∃hj:j'<ms.length,j+1+1=j'+1/\o=mT ms[j'].user (ms.drop (j'+1)):=fun e=>⟨j+1,ah,rfl,by rw[hy] at e;exact e⟩;have hw:IntKind.i64.wrap (((j+1:Nat):Int) - 1)=((j:Nat):Int):=by rw[aj (by omega) (by omega)];omega
   rw[<-hy,<-hz] at he;rw[<-hy] at k4 k1;rw[<-hz] at k0;simp only[<-hy] at k3;clear bq dK hy hz;unfold JB at he;refine aF.au fun F2 bR=>?_;repeat' ((conv=>whnf);first|with_reducible apply aa<;>intro _|refine aJ.drawn U rfl rfl ?_|with_reducible refine And.intro (aG.mk ⟨_,rfl,rfl⟩) ?_|(exfalso;exact ck ah (by assumption))|refine ai.bJ U rfl rfl rfl rfl rfl ah ?_|refine ai.EW (k:=j) U rfl rfl rfl rfl rfl hw hj ?_|refine ai.jW U rfl rfl rfl rfl rfl rfl ?_|refine ai.aR (i:=0) (v:=.agg (mA y)) rfl k3 rfl rfl ?_|refine ai.aR (i:=0) (v:=.agg [iA y.k,uA y.cf]) rfl k4 rfl rfl ?_|refine ai.aR (i:=0) (v:=iA y.user) rfl k1 rfl rfl ?_|refine ai.aR (i:=0) (v:=iA z.user) rfl k0 rfl rfl ?_|refine BJ (m:={ y with k:=0,cf:=0 }) ?_|refine HZ ?_|refine jJ.mk ?_ ?_|(show F2 _ _ _;subst bR;refine aF.au fun F2 bR=>?_)|(show F2 _ _ _;subst bR)|(show F _ _ _;subst hF;refine aF.au fun F hF=>?_)|(show F _ _ _;subst hF)|refine ae U rfl ?_)
   all_goals (try conv=>whnf)
   all_goals clear k0 k1 k3 k4 h
   all_goals generalize mT y.user (ms.drop (j+1+1))=q at he gJ
   all_goals generalize Mem.right { y with k:=0,cf:=0 }=r at *
   all_goals first
    | (refine ⟨eB ?_,_,rfl⟩
       rw[he]
       clear he gJ
       first
        | (simp_all;done)
        | (simp_all;omega))
    | (refine ⟨j+1+1,[0],⟨⟨ah,.inr (gJ ?_)⟩,Nat.sub_lt_sub_left ah (Nat.lt_succ_self _)⟩,rfl,⟨rr,⟨rfl,aw rfl (aj (by omega) (by omega))⟩,tU⟩,⟨ko,tU⟩⟩
       rw[he]
       clear he gJ
       first
        | (simp_all;done)
        | (simp_all;omega))
 ·obtain rfl:i=ms.length:=by omega
  have he:o=decide (0<ms.length):=by
   rcases he with ⟨h0,he⟩|⟨j,hj,h0,he⟩
   ·rw[he,decide_eq_false (by omega),List.eq_nil_of_length_eq_zero h0];rfl
   ·rw[he,decide_eq_true (by omega),<-h0,List.drop_length];rfl
  subst he;repeat' ((conv=>whnf);first|with_reducible apply aa<;>intro _|refine aJ.drawn U rfl rfl ?_|with_reducible refine And.intro (aG.mk ⟨_,rfl,rfl⟩) ?_|(exfalso;exact cI ah (by assumption))|refine ae U rfl ?_)
  all_goals (try conv=>whnf)
  all_goals rename_i hx
  all_goals first
   | exact ⟨eB (decide_eq_true (show 0<ms.length from Int.ofNat_lt.1 (of_decide_eq_true hx))).symm,_,rfl⟩
   | exact ⟨eB (decide_eq_false (show ¬0<ms.length from fun h=>of_decide_eq_false hx (Int.ofNat_lt.2 h))).symm,_,rfl⟩
end Go.Proofs.YtmbdghclhpboaaaGreat
namespace Go.Proofs.YtmbdghclhpboaaaGreat
section
variable{α:Type}(nk:α->Int)(ok:α->Bool)(mem:Int->Bool)
def iG:Option Int->List α->Bool
 | _,[]=>true
 | p,a::r=>(mem (nk a)&&ok a&&(match p with|none=>true|some p=>decide (p<nk a)))&&iG (some (nk a)) r
theorem BM:∀(l:List α) (p:Int),iG nk ok mem (some p) l=(gL p (l.map nk)&&l.all ok&&!((l.map nk).any fun x=>!mem x))
 | [],_=>rfl
 | a::r,p=>by
   rw[iG,BM r,List.map_cons,gL,List.all_cons,List.any_cons];try simp only[]
   generalize mem (nk a)=x1;generalize ok a=x2;generalize decide (p<nk a)=x3;generalize gL (nk a) (r.map nk)=x4;generalize r.all ok=x5;generalize ((r.map nk).any fun x=>!mem x)=x6;cases x1<;>cases x2<;>cases x3<;>cases x4<;>cases x5<;>cases x6<;>rfl
theorem BL(l:List α):iG nk ok mem none l=(cA (l.map nk)&&l.all ok&&!((l.map nk).any fun x=>!mem x)):=by
 cases l with
 | nil=>rfl
 | cons a r=>
   rw[iG,BM,List.map_cons,cA,List.all_cons,List.any_cons];try simp only[]
   generalize mem (nk a)=x1;generalize ok a=x2;generalize gL (nk a) (r.map nk)=x4;generalize r.all ok=x5;generalize ((r.map nk).any fun x=>!mem x)=x6;cases x1<;>cases x2<;>cases x4<;>cases x5<;>cases x6<;>rfl
end
def wS(q:bM)(tk:List iL):Bool:=
 l6 q.ms&&decide (q.nt=q.ms.length)&&decide (0<=q.past/\q.past<=4611686018427387903)&&(tk.all fun x=>(cg x.l).isSome) &&
 iG cw.id cw.bB (fun u=>q.us.any fun y=>y==u) none q.rs&&iG eA.id eA.bB (fun u=>q.us.any fun y=>y==u) none q.ss&&(q.es.all jU.dQ)&&decide ((gE q.s).2.err=0)
theorem HV(q:bM)(tk:List iL):wS q tk=fE q tk:=by
 unfold wS fE bM.sound bM.ak;rw[E0,BL,BL];have e1:∀l:List Int,(l.any fun x=>!q.us.any fun y=>y==x)=(l.any fun x=>!q.us.any fun y=>x==y):=fun l=>by
  congr 1;funext x;congr 1;congr 1;funext y;rw[Bool.eq_iff_iff,beq_iff_eq,beq_iff_eq];exact ⟨Eq.symm,Eq.symm⟩
 rw[e1,e1];have e2:q.es.all jU.dQ=!(q.es.any fun m=>!m.dQ):=by
  rw[List.all_eq_not_any_not]
 rw[e2];by_cases h:(gE q.s).2.err=0
 ·rw[Mt h];simp only[h,decide_true,Bool.and_true,Bool.true_and];unfold bM.us bM.yO bM.yT;simp only[Bool.decide_and];obtain ⟨us,Zp⟩:∃us,us=q.ms.map Mem.user:=⟨_,rfl⟩;rw[<-Zp];generalize decide (q.nt=q.ms.length)=a1;generalize decide (0<=q.past)=a2;generalize decide (q.past<=4611686018427387903)=a9;generalize (tk.all fun x=>(cg x.l).isSome)=a3;generalize cA us=a5;generalize (q.ms.any fun m=>!m.da)=a6;generalize cA (q.rs.map cw.id)=a7;generalize q.rs.all cw.bB=a8;generalize cA (q.ss.map eA.id)=b1;generalize q.ss.all eA.bB=b2;generalize (q.es.any fun m=>!m.dQ)=b3;generalize ((q.rs.map cw.id).any fun x=>!us.any fun y=>x==y)=b5;generalize ((q.ss.map eA.id).any fun x=>!us.any fun y=>x==y)=b6;cases us
  all_goals dsimp only
  all_goals ac_rfl
 ·simp only[h,decide_false,Bool.and_false,Bool.false_and]
end Go.Proofs.YtmbdghclhpboaaaGreat
namespace Go.Proofs.YtmbdghclhpboaaaGreat
open Ev Go.RowKit
def AZ(p:Option Int)(x:Int):Bool:=match p with
 | none=>true
 | some p=>decide (p<x)
theorem BK{α:Type}{nk:α->Int}{ok:α->Bool}{mem:Int->Bool}{p:Option Int}{a:α}{r:List α}:iG nk ok mem p (a::r)=((mem (nk a)&&ok a&&AZ p (nk a))&&iG nk ok mem (some (nk a)) r):=by
 cases p<;>rfl
theorem JQ(s:List UInt8):decide ((gE s).2.err=0)=(decide ((parse s).2.err=0)&&decide ((check (parse s).1).2.err=0)):=by
 unfold gE;by_cases h:(parse s).2.err=0
 ·rw[if_pos h,decide_eq_true h,Bool.true_and]
 ·rw[if_neg h,decide_eq_false h,Bool.false_and]
theorem Qu{s:List UInt8}{ds:List Dv}(hp:ds.map Dv.x=(parse s).1):∀y∈ds,fx y.x=true:=by
 intro y hy;by_cases hE:(parse s).2.err=0
 ·exact Bn hE _ (by rw[<-hp];exact List.mem_map_of_mem hy)
 ·rw[Bl hE,List.map_eq_nil_iff] at hp;rw[hp] at hy;cases hy
theorem Ph{R:aH}{q:bM}{tk:List iL}(h:q.Rd R)(hk:q.Tk R tk)(h0:q.ms.length<=1000000)(h1:q.rs.length<=1000000)(h2:q.ss.length<=1000000)(h3:q.es.length<=1000000)(h4:∀x∈tk,x.l.length<=x.c/\x.l.length<=9223372036854775807)(h5:q.s.length<=4611686018427387904):CP [] 12 [.agg q.a] [.res R] (kl (bA (wS q tk)) [.res R]):=by
 obtain ⟨o,ho⟩:∃o,o=wS q tk:=⟨_,rfl⟩;rw[<-ho];have gm:=h.ms;have gr:=h.rs;have gs:=h.ss;have ge:=h.es;have gt:=hk.rd;have gn:=hk.nt;have gk:=hk.el;unfold wS at ho;simp only[Bool.and_assoc] at ho;clear h hk;rcases q with ⟨ms,nt,rs,ss,tx,es,past,om,ot,pd,os,oe,cm,ct,cr,cs,ce⟩;simp only[] at ho gm gr gs ge gt gn gk h0 h1 h2 h3;subst gn;have km:=Mx (c:=cm) gm h0;cases iN:l6 ms
 ·rw[iN] at km ho;simp only[Bool.false_and] at ho;subst ho;refine ae U rfl ?_;refine eP.of rfl rfl ?_;refine aF.au fun F hF=>?_;repeat' ((conv=>whnf);first|with_reducible apply aa<;>intro _|refine aJ.drawn U rfl rfl ?_|with_reducible refine And.intro (aG.mk ⟨_,rfl,rfl⟩) ?_|refine km.g [0] rfl rfl ⟨ko,tU⟩ fun G=>?_|(show F _ _ _;subst hF;refine aF.au fun F hF=>?_)|(show F _ _ _;subst hF)|refine ae U rfl ?_)
  all_goals (try conv=>whnf)
  all_goals exact ⟨rfl,_,rfl⟩
 rw[iN,Bool.true_and] at ho;rw[iN] at km;refine ae U rfl ?_;refine eP.of rfl rfl ?_;refine aF.au fun F hF=>?_;repeat' ((conv=>whnf);first|with_reducible apply aa<;>intro _|refine aJ.drawn U rfl rfl ?_|with_reducible refine And.intro (aG.mk ⟨_,rfl,rfl⟩) ?_|refine km.g [0] rfl rfl ⟨ko,tU⟩ fun G=>?_|refine DH ?_|(show F _ _ _;subst hF;refine aF.au fun F hF=>?_)|(show F _ _ _;subst hF)|refine ae U rfl ?_)
 all_goals (try conv=>whnf)
 ·rename_i hx;have aN:¬tk.length=ms.length:=fun e=>by rw[e] at hx;simp at hx
  rw[decide_eq_false aN,Bool.false_and] at ho;exact ⟨eB ho.symm,_,rfl⟩
 rotate_left
 ·rename_i hx;rw[hx,Bool.false_and,Bool.and_false] at ho;exact ⟨eB ho.symm,_,rfl⟩
 rename_i hx hy;rw[hy,Bool.true_and] at ho;have aN:tk.length=ms.length:=Int.ofNat.inj (by simpa using hx);rw[decide_eq_true aN,Bool.true_and] at ho;clear hx hy;obtain ⟨r4,uW⟩:∃r4,r4=decide ((gE (bM.s ⟨ms,tk.length,rs,ss,tx,es,past,om,ot,pd,os,oe,cm,ct,cr,cs,ce⟩)).2.err=0):=⟨_,rfl⟩;rw[<-uW] at ho;obtain ⟨r3,pF⟩:∃r3,r3=(es.all jU.dQ&&r4):=⟨_,rfl⟩;rw[<-pF] at ho;obtain ⟨r2,jR⟩:∃r2,r2=(iG eA.id eA.bB (fun u=>(bM.us ⟨ms,tk.length,rs,ss,tx,es,past,om,ot,pd,os,oe,cm,ct,cr,cs,ce⟩).any fun y=>y==u) none ss&&r3):=⟨_,rfl⟩;rw[<-jR] at ho;obtain ⟨r1,Jp⟩:∃r1,r1=(iG cw.id cw.bB (fun u=>(bM.us ⟨ms,tk.length,rs,ss,tx,es,past,om,ot,pd,os,oe,cm,ct,cr,cs,ce⟩).any fun y=>y==u) none rs&&r2):=⟨_,rfl⟩;rw[<-Jp] at ho;refine aW U rfl (fun i:Nat=>[(1,.ptr 1 0),(3,iA (i:Nat))]) (fun _=>[.res R,.cells (bM.a ⟨ms,tk.length,rs,ss,tx,es,past,om,ot,pd,os,oe,cm,ct,cr,cs,ce⟩) 28]) (fun i=>i<=tk.length/\o=((tk.drop i).all (fun x=>(cg x.l).isSome)&&r1)) (fun i=>tk.length - i) 0 ⟨Nat.zero_le _,ho⟩ [0,1] ⟨rfl,⟨rr,rr,tU⟩,⟨ko,⟨_,rfl,rfl⟩,tU⟩⟩ ?_;rintro i ⟨hi,he⟩;clear ho;by_cases ah:i<tk.length
 ·have ig:tk[i]∈tk:=List.getElem_mem ah;have kt:=PD (c:=tk[i].c) (gk _ ig) (h4 _ ig).1 (h4 _ ig).2;obtain ⟨a,rfl,bq⟩:=gt.at ah;have k3:=fun w S hw=>bq w S hw i ah;rw[List.drop_eq_getElem_cons ah,List.all_cons,Bool.and_assoc] at he;obtain ⟨y,hy⟩:∃y,y=tk[i]:=⟨_,rfl⟩;rw[<-hy] at kt he;simp only[<-hy] at k3;refine aF.au fun F2 bR=>?_;repeat' ((conv=>whnf);first|with_reducible apply aa<;>intro _|refine aJ.drawn U rfl rfl ?_|with_reducible refine And.intro (aG.mk ⟨_,rfl,rfl⟩) ?_|(exfalso;exact ck ah (by assumption))|refine ai.bJ U rfl rfl rfl rfl rfl ah ?_|refine ai.aR (i:=0) (v:=.lit (BZ y)) rfl k3 rfl rfl ?_|refine kt.g [0] rfl rfl ⟨ko,tU⟩ fun G=>?_|(show F2 _ _ _;subst bR;refine aF.au fun F2 bR=>?_)|(show F2 _ _ _;subst bR)|(show F _ _ _;subst hF;refine aF.au fun F hF=>?_)|(show F _ _ _;subst hF)|refine ae U rfl ?_)
  all_goals (try conv=>whnf)
  all_goals rename_i hx
  all_goals rw[hx] at he
  all_goals first
   | exact ⟨eB he.symm,_,rfl⟩
   | exact ⟨i+1,[0,1],⟨⟨ah,he⟩,Nat.sub_lt_sub_left ah (Nat.lt_succ_self _)⟩,rfl,⟨rr,⟨rfl,aw rfl (aj (by omega) (by omega))⟩,tU⟩,⟨ko,⟨_,rfl,rfl⟩,tU⟩⟩
   | trace_state
 obtain rfl:i=tk.length:=by omega
 obtain ⟨M,hM⟩:∃M:Int->Bool,M=fun u=>(ms.map Mem.user).any fun y=>y==u:=⟨_,rfl⟩;have GF:∀u,((ms.map Mem.user).any fun y=>y==u)=M u:=fun u=>by rw[hM]
 have Jp:r1=(iG cw.id cw.bB M none rs&&r2):=by rw[hM];exact Jp
 have jR:r2=(iG eA.id eA.bB M none ss&&r3):=by rw[hM];exact jR
 rw[List.drop_length,List.all_nil,Bool.true_and,Jp] at he;clear Jp hM;repeat' ((conv=>whnf);first|with_reducible apply aa<;>intro _|refine aJ.drawn U rfl rfl ?_|with_reducible refine And.intro (aG.mk ⟨_,rfl,rfl⟩) ?_|(exfalso;exact cI ah (by assumption))|(show F _ _ _;subst hF;refine aF.au fun F hF=>?_)|(show F _ _ _;subst hF)|refine ae U rfl ?_)
 clear ah hi;refine aW U rfl (fun i:Nat=>[(1,.ptr 1 0),(4,iA (i:Nat))]) (fun _=>[.res R,.cells (bM.a ⟨ms,tk.length,rs,ss,tx,es,past,om,ot,pd,os,oe,cm,ct,cr,cs,ce⟩) 28]) (fun i=>i<=rs.length/\∃p,((i=0/\p=none)\/∃j,∃hj:j<rs.length,i=j+1/\p=some rs[j].id)/\o=(iG cw.id cw.bB M p (rs.drop i)&&r2)) (fun i=>rs.length - i) 0 ⟨Nat.zero_le _,none,.inl ⟨rfl,rfl⟩,he⟩ [0,1] ⟨rfl,⟨rr,rr,tU⟩,⟨ko,⟨_,rfl,rfl⟩,tU⟩⟩ ?_;clear he;rintro i ⟨hi,p,hp,he⟩;by_cases ah:i<rs.length
 ·have kf:=DC (c:=cm) (u:=rs[i].id) gm h0;rw[GF] at kf;obtain ⟨a,rfl,bq⟩:=gr.at ah;have dK:kn Tryz.prog R 72 4 a Bz rs:=bq;have k3:=fun w S hw=>bq w S hw i ah;rw[List.drop_eq_getElem_cons ah,BK] at he;have gJ:o=(iG cw.id cw.bB M (some rs[i].id) (rs.drop (i+1))&&r2)->i+1<=rs.length/\∃p,((i+1=0/\p=none)\/∃j,∃hj:j<rs.length,i+1=j+1/\p=some rs[j].id)/\o=(iG cw.id cw.bB M p (rs.drop (i+1))&&r2):=fun e=>⟨ah,some rs[i].id,.inr ⟨i,ah,rfl,rfl⟩,e⟩;rcases hp with ⟨rfl,rfl⟩|⟨j,hj,rfl,rfl⟩
  ·obtain ⟨y,hy⟩:∃y,y=rs[0]:=⟨_,rfl⟩;rw[<-hy] at kf he gJ;simp only[<-hy] at k3;obtain ⟨b,hb⟩:∃b,b=M y.id:=⟨_,rfl⟩;rw[<-hb] at kf he;generalize iG cw.id cw.bB M (some y.id) (rs.drop (0+1))=q at he gJ;unfold cw.bB fits at he;refine aF.au fun F2 bR=>?_;repeat' ((conv=>whnf);first|with_reducible apply aa<;>intro _|refine aJ.drawn U rfl rfl ?_|with_reducible refine And.intro (aG.mk ⟨_,rfl,rfl⟩) ?_|(exfalso;exact ck ah (by assumption))|refine ai.bJ U rfl rfl rfl rfl rfl ah ?_|refine ai.jW U rfl rfl rfl rfl rfl rfl ?_|refine ai.aR (i:=0) (v:=.agg (mF y)) rfl k3 rfl rfl ?_|(refine kf.use [0] rfl rfl ⟨ko,tU⟩ ?_;rintro _ _ ⟨z0,rfl,G,rfl⟩;refine ⟨[],?_⟩)|refine DH ?_|refine jJ.mk ?_ ?_|(show F2 _ _ _;subst bR;refine aF.au fun F2 bR=>?_)|(show F2 _ _ _;subst bR)|(show F _ _ _;subst hF;refine aF.au fun F hF=>?_)|(show F _ _ _;subst hF)|refine ae U rfl ?_)
   all_goals (try conv=>whnf)
   all_goals clear gm gr gs ge gt gk kf bq dK k3 GF hb hy h4 jR pF uW
   all_goals first
    | (refine ⟨eB ?_,_,rfl⟩
       rw[he]
       clear he gJ
       first
        | (simp_all;done)
        | (simp_all;omega))
    | (refine ⟨0+1,[0,1],⟨gJ ?_,Nat.sub_lt_sub_left ah (Nat.lt_succ_self _)⟩,rfl,⟨rr,⟨rfl,aw rfl (aj (by omega) (by omega))⟩,tU⟩,⟨ko,⟨_,rfl,rfl⟩,tU⟩⟩
       rw[he]
       clear he gJ
       unfold AZ
       first
        | (simp_all;done)
        | (simp_all;omega))
  ·have k0:=kn.jx (j:=0) (u:=.int .i64 rs[j].id) (ty2:=3) U dK ⟨_,rfl,rfl⟩ hj ⟨_,rfl,rfl⟩ rfl;have hw:IntKind.i64.wrap (((j+1:Nat):Int) - 1)=((j:Nat):Int):=by rw[aj (by omega) (by omega)];omega
   obtain ⟨y,hy⟩:∃y,y=rs[j+1]:=⟨_,rfl⟩;obtain ⟨z,hz⟩:∃z,z=rs[j]:=⟨_,rfl⟩;rw[<-hz] at k0 he;rw[<-hy] at kf he gJ;simp only[<-hy] at k3;obtain ⟨b,hb⟩:∃b,b=M y.id:=⟨_,rfl⟩;rw[<-hb] at kf he;generalize iG cw.id cw.bB M (some y.id) (rs.drop (j+1+1))=q at he gJ;unfold cw.bB fits at he;refine aF.au fun F2 bR=>?_;repeat' ((conv=>whnf);first|with_reducible apply aa<;>intro _|refine aJ.drawn U rfl rfl ?_|with_reducible refine And.intro (aG.mk ⟨_,rfl,rfl⟩) ?_|(exfalso;exact ck ah (by assumption))|refine ai.bJ U rfl rfl rfl rfl rfl ah ?_|refine ai.EW (k:=j) U rfl rfl rfl rfl rfl hw hj ?_|refine ai.jW U rfl rfl rfl rfl rfl rfl ?_|refine ai.aR (i:=0) (v:=.agg (mF y)) rfl k3 rfl rfl ?_|refine ai.aR (i:=0) (v:=iA z.id) rfl k0 rfl rfl ?_|(refine kf.use [0] rfl rfl ⟨ko,tU⟩ ?_;rintro _ _ ⟨z0,rfl,G,rfl⟩;refine ⟨[],?_⟩)|refine DH ?_|refine jJ.mk ?_ ?_|(show F2 _ _ _;subst bR;refine aF.au fun F2 bR=>?_)|(show F2 _ _ _;subst bR)|(show F _ _ _;subst hF;refine aF.au fun F hF=>?_)|(show F _ _ _;subst hF)|refine ae U rfl ?_)
   all_goals (try conv=>whnf)
   all_goals clear gm gr gs ge gt gk kf bq dK k3 k0 GF hb hy hz h4 jR pF uW
   all_goals first
    | (refine ⟨eB ?_,_,rfl⟩
       rw[he]
       clear he gJ
       unfold AZ
       first
        | (simp_all;done)
        | (simp_all;omega))
    | (refine ⟨j+1+1,[0,1],⟨gJ ?_,Nat.sub_lt_sub_left ah (Nat.lt_succ_self _)⟩,rfl,⟨rr,⟨rfl,aw rfl (aj (by omega) (by omega))⟩,tU⟩,⟨ko,⟨_,rfl,rfl⟩,tU⟩⟩
       rw[he]
       clear he gJ
       unfold AZ
       first
        | (simp_all;done)
        | (simp_all;omega))
 obtain rfl:i=rs.length:=by omega
 have he:o=r2:=by rw[he,List.drop_length,iG,Bool.true_and]
 clear hp;rw[jR] at he;clear jR;repeat' ((conv=>whnf);first|with_reducible apply aa<;>intro _|refine aJ.drawn U rfl rfl ?_|with_reducible refine And.intro (aG.mk ⟨_,rfl,rfl⟩) ?_|(exfalso;exact cI ah (by assumption))|(show F _ _ _;subst hF;refine aF.au fun F hF=>?_)|(show F _ _ _;subst hF)|refine ae U rfl ?_)
 clear ah hi;refine aW U rfl (fun i:Nat=>[(1,.ptr 1 0),(8,iA (i:Nat))]) (fun _=>[.res R,.cells (bM.a ⟨ms,tk.length,rs,ss,tx,es,past,om,ot,pd,os,oe,cm,ct,cr,cs,ce⟩) 28]) (fun i=>i<=ss.length/\∃p,((i=0/\p=none)\/∃j,∃hj:j<ss.length,i=j+1/\p=some ss[j].id)/\o=(iG eA.id eA.bB M p (ss.drop i)&&r3)) (fun i=>ss.length - i) 0 ⟨Nat.zero_le _,none,.inl ⟨rfl,rfl⟩,he⟩ [0,1] ⟨rfl,⟨rr,rr,tU⟩,⟨ko,⟨_,rfl,rfl⟩,tU⟩⟩ ?_;clear he;rintro i ⟨hi,p,hp,he⟩;by_cases ah:i<ss.length
 ·have kf:=DC (c:=cm) (u:=ss[i].id) gm h0;rw[GF] at kf;obtain ⟨a,rfl,bq⟩:=gs.at ah;have dK:kn Tryz.prog R 78 6 a MC ss:=bq;have k3:=fun w S hw=>bq w S hw i ah;rw[List.drop_eq_getElem_cons ah,BK] at he;have gJ:o=(iG eA.id eA.bB M (some ss[i].id) (ss.drop (i+1))&&r3)->i+1<=ss.length/\∃p,((i+1=0/\p=none)\/∃j,∃hj:j<ss.length,i+1=j+1/\p=some ss[j].id)/\o=(iG eA.id eA.bB M p (ss.drop (i+1))&&r3):=fun e=>⟨ah,some ss[i].id,.inr ⟨i,ah,rfl,rfl⟩,e⟩;rcases hp with ⟨rfl,rfl⟩|⟨j,hj,rfl,rfl⟩
  ·obtain ⟨y,hy⟩:∃y,y=ss[0]:=⟨_,rfl⟩;rw[<-hy] at kf he gJ;simp only[<-hy] at k3;obtain ⟨b,hb⟩:∃b,b=M y.id:=⟨_,rfl⟩;rw[<-hb] at kf he;generalize iG eA.id eA.bB M (some y.id) (ss.drop (0+1))=q at he gJ;unfold eA.bB at he;refine aF.au fun F2 bR=>?_;repeat' ((conv=>whnf);first|with_reducible apply aa<;>intro _|refine aJ.drawn U rfl rfl ?_|with_reducible refine And.intro (aG.mk ⟨_,rfl,rfl⟩) ?_|(exfalso;exact ck ah (by assumption))|refine ai.bJ U rfl rfl rfl rfl rfl ah ?_|refine ai.jW U rfl rfl rfl rfl rfl rfl ?_|refine ai.aR (i:=0) (v:=.agg (sM y)) rfl k3 rfl rfl ?_|(refine kf.use [0] rfl rfl ⟨ko,tU⟩ ?_;rintro _ _ ⟨z0,rfl,G,rfl⟩;refine ⟨[],?_⟩)|refine DH ?_|refine sJ ?_|refine jJ.mk ?_ ?_|(show F2 _ _ _;subst bR;refine aF.au fun F2 bR=>?_)|(show F2 _ _ _;subst bR)|(show F _ _ _;subst hF;refine aF.au fun F hF=>?_)|(show F _ _ _;subst hF)|refine ae U rfl ?_)
   all_goals (try conv=>whnf)
   all_goals clear gm gr gs ge gt gk kf bq dK k3 GF hb hy h4 pF uW
   all_goals first
    | (refine ⟨eB ?_,_,rfl⟩
       rw[he]
       clear he gJ
       first
        | (simp_all;done)
        | (simp_all;omega))
    | (refine ⟨0+1,[0,1],⟨gJ ?_,Nat.sub_lt_sub_left ah (Nat.lt_succ_self _)⟩,rfl,⟨rr,⟨rfl,aw rfl (aj (by omega) (by omega))⟩,tU⟩,⟨ko,⟨_,rfl,rfl⟩,tU⟩⟩
       rw[he]
       clear he gJ
       unfold AZ
       first
        | (simp_all;done)
        | (simp_all;omega))
  ·have k0:=kn.jx (j:=0) (u:=.int .i64 ss[j].id) (ty2:=3) U dK ⟨_,rfl,rfl⟩ hj ⟨_,rfl,rfl⟩ rfl;have hw:IntKind.i64.wrap (((j+1:Nat):Int) - 1)=((j:Nat):Int):=by rw[aj (by omega) (by omega)];omega
   obtain ⟨y,hy⟩:∃y,y=ss[j+1]:=⟨_,rfl⟩;obtain ⟨z,hz⟩:∃z,z=ss[j]:=⟨_,rfl⟩;rw[<-hz] at k0 he;rw[<-hy] at kf he gJ;simp only[<-hy] at k3;obtain ⟨b,hb⟩:∃b,b=M y.id:=⟨_,rfl⟩;rw[<-hb] at kf he;generalize iG eA.id eA.bB M (some y.id) (ss.drop (j+1+1))=q at he gJ;unfold eA.bB at he;refine aF.au fun F2 bR=>?_;repeat' ((conv=>whnf);first|with_reducible apply aa<;>intro _|refine aJ.drawn U rfl rfl ?_|with_reducible refine And.intro (aG.mk ⟨_,rfl,rfl⟩) ?_|(exfalso;exact ck ah (by assumption))|refine ai.bJ U rfl rfl rfl rfl rfl ah ?_|refine ai.EW (k:=j) U rfl rfl rfl rfl rfl hw hj ?_|refine ai.jW U rfl rfl rfl rfl rfl rfl ?_|refine ai.aR (i:=0) (v:=.agg (sM y)) rfl k3 rfl rfl ?_|refine ai.aR (i:=0) (v:=iA z.id) rfl k0 rfl rfl ?_|(refine kf.use [0] rfl rfl ⟨ko,tU⟩ ?_;rintro _ _ ⟨z0,rfl,G,rfl⟩;refine ⟨[],?_⟩)|refine DH ?_|refine sJ ?_|refine jJ.mk ?_ ?_|(show F2 _ _ _;subst bR;refine aF.au fun F2 bR=>?_)|(show F2 _ _ _;subst bR)|(show F _ _ _;subst hF;refine aF.au fun F hF=>?_)|(show F _ _ _;subst hF)|refine ae U rfl ?_)
   all_goals (try conv=>whnf)
   all_goals clear gm gr gs ge gt gk kf bq dK k3 k0 GF hb hy hz h4 pF uW
   all_goals first
    | (refine ⟨eB ?_,_,rfl⟩
       rw[he]
       clear he gJ
       unfold AZ
       first
        | (simp_all;done)
        | (simp_all;omega))
    | (refine ⟨j+1+1,[0,1],⟨gJ ?_,Nat.sub_lt_sub_left ah (Nat.lt_succ_self _)⟩,rfl,⟨rr,⟨rfl,aw rfl (aj (by omega) (by omega))⟩,tU⟩,⟨ko,⟨_,rfl,rfl⟩,tU⟩⟩
       rw[he]
       clear he gJ
       unfold AZ
       first
        | (simp_all;done)
        | (simp_all;omega))
 obtain rfl:i=ss.length:=by omega
 have he:o=r3:=by rw[he,List.drop_length,iG,Bool.true_and]
 clear hp;rw[pF] at he;clear pF;repeat' ((conv=>whnf);first|with_reducible apply aa<;>intro _|refine aJ.drawn U rfl rfl ?_|with_reducible refine And.intro (aG.mk ⟨_,rfl,rfl⟩) ?_|(exfalso;exact cI ah (by assumption))|(show F _ _ _;subst hF;refine aF.au fun F hF=>?_)|(show F _ _ _;subst hF)|refine ae U rfl ?_)
 clear ah hi;refine aW U rfl (fun i:Nat=>[(1,.ptr 1 0),(12,iA (i:Nat))]) (fun _=>[.res R,.cells (bM.a ⟨ms,tk.length,rs,ss,tx,es,past,om,ot,pd,os,oe,cm,ct,cr,cs,ce⟩) 28]) (fun i=>i<=es.length/\o=((es.drop i).all jU.dQ&&r4)) (fun i=>es.length - i) 0 ⟨Nat.zero_le _,he⟩ [0,1] ⟨rfl,⟨rr,rr,tU⟩,⟨ko,⟨_,rfl,rfl⟩,tU⟩⟩ ?_;clear he;rintro i ⟨hi,he⟩;by_cases ah:i<es.length
 ·obtain ⟨a,rfl,bq⟩:=ge.at ah;have k3:=fun w S hw=>bq w S hw i ah;rw[List.drop_eq_getElem_cons ah,List.all_cons] at he;obtain ⟨y,hy⟩:∃y,y=es[i]:=⟨_,rfl⟩;rw[<-hy] at he;simp only[<-hy] at k3;obtain ⟨q,hq⟩:∃q,q=(es.drop (i+1)).all jU.dQ:=⟨_,rfl⟩;have gJ:o=(q&&r4)->o=((es.drop (i+1)).all jU.dQ&&r4):=fun e=>by rw[e,hq]
  rw[<-hq] at he;clear hq;unfold jU.dQ at he;refine aF.au fun F2 bR=>?_;repeat' ((conv=>whnf);first|with_reducible apply aa<;>intro _|refine aJ.drawn U rfl rfl ?_|with_reducible refine And.intro (aG.mk ⟨_,rfl,rfl⟩) ?_|(exfalso;exact ck ah (by assumption))|refine ai.bJ U rfl rfl rfl rfl rfl ah ?_|refine ai.jW U rfl rfl rfl rfl rfl rfl ?_|refine ai.aR (i:=0) (v:=.agg (Gq y)) rfl k3 rfl rfl ?_|refine DH ?_|refine jJ.mk ?_ ?_|(show F2 _ _ _;subst bR;refine aF.au fun F2 bR=>?_)|(show F2 _ _ _;subst bR)|(show F _ _ _;subst hF;refine aF.au fun F hF=>?_)|(show F _ _ _;subst hF)|refine ae U rfl ?_)
  all_goals (try conv=>whnf)
  all_goals clear gm gr gs ge gt gk bq k3 GF hy h4 uW
  all_goals first
   | (refine ⟨eB ?_,_,rfl⟩
      rw[he]
      clear he gJ
      first
       | (simp_all;done)
       | (simp_all;omega))
   | (refine ⟨i+1,[0,1],⟨⟨ah,gJ ?_⟩,Nat.sub_lt_sub_left ah (Nat.lt_succ_self _)⟩,rfl,⟨rr,⟨rfl,aw rfl (aj (by omega) (by omega))⟩,tU⟩,⟨ko,⟨_,rfl,rfl⟩,tU⟩⟩
      rw[he]
      clear he gJ
      first
       | (simp_all;done)
       | (simp_all;omega))
 obtain rfl:i=es.length:=by omega
 have he:o=r4:=by rw[he,List.drop_length,List.all_nil,Bool.true_and]
 have uW:r4=decide ((gE tx.data.toList).2.err=0):=uW;rw[uW,JQ] at he;clear uW hi;have kP:=Pp (s:=tx.data.toList) h5;clear gm gr gs ge gt gk h4 GF h5;repeat' ((conv=>whnf);first|with_reducible apply aa<;>intro _|refine aJ.drawn U rfl rfl ?_|with_reducible refine And.intro (aG.mk ⟨_,rfl,rfl⟩) ?_|(exfalso;exact cI ah (by assumption))|(refine kP.use [] rfl rfl trivial ?_;rintro _ _ ⟨A,m,ds,R2,hp,⟨Y0,gh⟩,rfl,G,rfl⟩;refine ⟨[0],?_⟩)|(refine ag.nZ 2 rfl gh fun hc=>?_;refine (Mr (c:=m) Y0 hc (Qu hp)).use [2] rfl rfl ⟨ko,tU⟩ ?_;rintro _ _ ⟨A2,n2,q2,e,l,c,rfl,QI,G2,rfl⟩;refine ⟨[],?_⟩)|(show F _ _ _;subst hF;refine aF.au fun F hF=>?_)|(show F _ _ _;subst hF)|refine ae U rfl ?_)
 all_goals (try conv=>whnf)
 all_goals try rw[hp] at QI
 ·rename_i h1 h2;have e1:(parse tx.data.toList).2.err=0:=by
   have:=eq_of_beq h1;omega
  have e2:e=0:=by
   have:=eq_of_beq h2;omega
  exact ⟨eB (by rw[he,decide_eq_true e1,decide_eq_true (QI.1 e2)];rfl),_,rfl⟩
 ·rename_i h1 h2;have e2:¬e=0:=fun e2=>by
   rw[e2] at h2;simp at h2
  exact ⟨eB (by rw[he,decide_eq_false (fun h=>e2 (QI.2 h)),Bool.and_false]),_,rfl⟩
 ·rename_i h1;have e1:¬(parse tx.data.toList).2.err=0:=fun e1=>by
   rw[e1] at h1;simp at h1
  exact ⟨eB (by rw[he,decide_eq_false e1,Bool.false_and]),_,rfl⟩
end Go.Proofs.YtmbdghclhpboaaaGreat
