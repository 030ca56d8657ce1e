/- Part of the proof: PolS Ppr4 PolP3 Ppr5 RulC Rul4. Conditions: as each states. -/
import Derived.Test.YtmbdghclhpboaaaGreatPw31
set_option linter.all false
set_option maxRecDepth 100000
namespace Go.Proofs.YtmbdghclhpboaaaGreat
open Ev
theorem vj(g:Nat->Nat):∀l:List Int,AV.ff g (l.map iA)=l.map iA
 | []=>rfl
 | a::l=>by rw[List.map_cons,AV.ff,vj g l];rfl
def ze(n:Int):Bool:=decide (0<=n)&&decide (n<=65535)
theorem tF{l:List Int}{T:TypeId}(hl:l.length<=1000):CP [] 409 [.slice 0 0 l.length (.k l.length)] [.cells (l.map iA) T] (fun v H'=>v=bA (l.all ze)/\∃G,H'=.cells (l.map iA) T::G):=by
 refine ae U rfl ?_;conv=>whnf
 refine aW U rfl (fun k:Nat=>[(5,.slice 0 0 l.length (.k l.length)),(6,iA l.length),(7,iA (k:Nat))]) (fun _=>[.cells (l.map iA) T]) (fun k=>k<=l.length/\l.all ze=(l.drop k).all ze) (fun k=>l.length - k) 0 ⟨Nat.zero_le _,rfl⟩ [0] ?_ ?_
 ·exact ⟨rfl,⟨rr,rr,rr,tU⟩,⟨⟨_,rfl,by
   show vw (.cells (l.map iA) T)=vw (.cells (AV.ff _ (l.map iA)) T)
   rw[vj]⟩,tU⟩⟩
 ·rintro k ⟨gT,hr⟩;by_cases hk:k<l.length
  ·rw[List.drop_eq_getElem_cons hk,List.all_cons] at hr;have dd:(l.map iA)[0+k * 1]?=some (iA l[k]):=by simp[hk]
   conv=>whnf
   refine aa (fun _=>?_) (ck hk);repeat' ((conv=>whnf);first|with_reducible apply aa<;>intro _|refine aI.of (k:=k) rfl hk ?_|rw[dd])
   all_goals (try conv=>whnf)
   ·rename_i hx;have hx:=of_decide_eq_true hx;exact ⟨bh (by rw[hr];unfold ze;rw[decide_eq_false (by omega)];rfl),[],rfl⟩
   ·rename_i hx hy;have hy:=of_decide_eq_true hy;exact ⟨bh (by rw[hr];unfold ze;rw[decide_eq_false (p:=l[k]<=65535) (by omega),Bool.and_false];rfl),[],rfl⟩
   ·rename_i hx hy;have hx:=of_decide_eq_false hx;have hy:=of_decide_eq_false hy;have e:ze l[k]=true:=by unfold ze;rw[decide_eq_true (by omega),decide_eq_true (by omega)];rfl
    rw[e,Bool.true_and] at hr;exact ⟨k+1,[0],⟨⟨hk,hr⟩,by omega⟩,rfl,⟨rr,rr,⟨rfl,aw rfl (aj (by omega) (by omega))⟩,tU⟩,⟨⟨_,rfl,by
     show vw (.cells (l.map iA) T)=vw (.cells (AV.ff _ (l.map iA)) T)
     rw[vj]⟩,tU⟩⟩
  ·obtain rfl:k=l.length:=by omega
   rw[List.drop_length] at hr;conv=>whnf
   refine aa (cI hk) (fun _=>?_);repeat' ((conv=>whnf);with_reducible apply aa<;>intro _)
   all_goals (try conv=>whnf)
   exact ⟨bh (by rw[hr];rfl),[],rfl⟩
theorem eB{a b:Bool}(h:a=b):AV.lit (.bool a)=bA b:=by rw[h]
theorem lr{n:Nat}:ze (n:Int)=decide (n<=65535):=by
 unfold ze;rw[decide_eq_true (by omega),Bool.true_and];exact decide_eq_decide.2 ⟨fun h=>by omega,fun h=>by omega⟩
theorem J6{S:List Nat}{H:List af}{K:AV->List af->Prop}{x:fQ}(k:K (bA (jH x)) H):CP S 410 [.agg (wA x)] H K:=by
 refine ag.pure ?_ (fun _=>rfl) (fun _=>rfl) k;refine ae U rfl ?_;repeat' ((conv=>whnf);with_reducible apply aa<;>intro _)
 all_goals (try conv=>whnf)
 all_goals refine eB ?_
 all_goals unfold jH
 all_goals simp_all [ByteArray.toList_eq]
theorem K6{S:List Nat}{H:List af}{K:AV->List af->Prop}{x:fQ}(k:K (bA (gI x)) H):CP S 415 [.agg (wA x)] H K:=by
 refine ag.pure ?_ (fun _=>rfl) (fun _=>rfl) k;obtain ⟨b,hb⟩:∃b,b=iP x.name:=⟨_,rfl⟩;have LU:∀{S:List Nat} {H:List af} {K:AV->List af->Prop},K (bA b) H->CP S 408 [.lit (cU x.name)] H K:=fun k=>DR (hb ▸ k);refine ae U rfl ?_;repeat' ((conv=>whnf);first|with_reducible apply aa<;>intro _|refine LU ?_|(refine (tF (l:=[(x.n:Int)]) (T:=3) (by simp)).use [1] rfl rfl ⟨⟨_,rfl,rfl⟩,tU⟩ ?_;rintro _ _ ⟨rfl,G,rfl⟩;rw[List.all_cons,List.all_nil,Bool.and_true,lr];refine ⟨[],?_⟩))
 all_goals (try conv=>whnf)
 all_goals refine eB ?_
 all_goals unfold gI
 all_goals simp_all [ByteArray.toList_eq]
theorem R9{S:List Nat}{H:List af}{K:AV->List af->Prop}{x:fQ}(k:K (bA (Cc x)) H):CP S 479 [.agg (wA x)] H K:=by
 refine ag.pure ?_ (fun _=>rfl) (fun _=>rfl) k;obtain ⟨b,hb⟩:∃b,b=gI x:=⟨_,rfl⟩;have hr:∀{S:List Nat} {H:List af} {K:AV->List af->Prop},K (bA b) H->CP S 415 [.agg (wA x)] H K:=fun k=>K6 (hb ▸ k);refine ae U rfl ?_;repeat' ((conv=>whnf);first|with_reducible apply aa<;>intro _|refine hr ?_)
 all_goals (try conv=>whnf)
 all_goals refine eB ?_
 all_goals unfold Cc
 all_goals simp_all [ByteArray.toList_eq]
theorem PR{S:List Nat}{H:List af}{K:AV->List af->Prop}{d:Dc}{v:Value}(k:K (bA (nr d)) H):CP S 411 [.agg (dA d v)] H K:=by
 refine ag.pure ?_ (fun _=>rfl) (fun _=>rfl) k;obtain ⟨b,hb⟩:∃b,b=jH d.label:=⟨_,rfl⟩;obtain ⟨c,hc⟩:∃c,c=jH d.wh:=⟨_,rfl⟩;have h1:∀{S:List Nat} {H:List af} {K:AV->List af->Prop},K (bA b) H->CP S 410 [.agg (wA d.label)] H K:=fun k=>J6 (hb ▸ k);have h2:∀{S:List Nat} {H:List af} {K:AV->List af->Prop},K (bA c) H->CP S 410 [.agg (wA d.wh)] H K:=fun k=>J6 (hc ▸ k);refine ae U rfl ?_;repeat' ((conv=>whnf);first|with_reducible apply aa<;>intro _|refine h1 ?_|refine h2 ?_)
 all_goals (try conv=>whnf)
 all_goals refine eB ?_
 all_goals unfold nr
 all_goals simp_all
 all_goals omega
theorem PQ{S:List Nat}{H:List af}{K:AV->List af->Prop}{d:Dc}{A:Option Addr}{m:Nat}(k:K (bA (nq d)) H):CP S 413 [.agg (dA d (.slice A d.boxes.length m))] H K:=by
 refine ag.pure ?_ (fun _=>rfl) (fun _=>rfl) k;refine ae U rfl ?_;repeat' ((conv=>whnf);with_reducible apply aa<;>intro _)
 all_goals (try conv=>whnf)
 all_goals refine eB ?_
 all_goals unfold nq
 all_goals simp_all [ByteArray.toList_eq]
theorem VG{S:List Nat}{H:List af}{K:AV->List af->Prop}{d:Dc}{v:Value}(k:K (bA (vn d)) H):CP S 414 [.agg (dA d v)] H K:=by
 refine ag.pure ?_ (fun _=>rfl) (fun _=>rfl) k;obtain ⟨b,hb⟩:∃b,b=gI d.role:=⟨_,rfl⟩;obtain ⟨c,hc⟩:∃c,c=gI d.label:=⟨_,rfl⟩;obtain ⟨e,he⟩:∃e,e=Cc d.wh:=⟨_,rfl⟩;obtain ⟨f,hf⟩:∃f,f=decide (d.lo<=65535/\d.hi<=65535/\d.bO<=65535):=⟨_,rfl⟩;have h1:∀{S:List Nat} {H:List af} {K:AV->List af->Prop},K (bA b) H->CP S 415 [.agg (wA d.role)] H K:=fun k=>K6 (hb ▸ k);have h2:∀{S:List Nat} {H:List af} {K:AV->List af->Prop},K (bA c) H->CP S 415 [.agg (wA d.label)] H K:=fun k=>K6 (hc ▸ k);have h3:∀{S:List Nat} {H:List af} {K:AV->List af->Prop},K (bA e) H->CP S 479 [.agg (wA d.wh)] H K:=fun k=>R9 (he ▸ k);have hn:[(d.lo:Int),(d.hi:Int),(d.bO:Int)].all ze=f:=by
  rw[hf,List.all_cons,List.all_cons,List.all_cons,List.all_nil,lr,lr,lr,Bool.and_true,Bool.decide_and,Bool.decide_and]
 have h4:=tF (l:=[(d.lo:Int),(d.hi:Int),(d.bO:Int)]) (T:=3) (by simp);rw[hn] at h4;refine ae U rfl ?_;repeat' ((conv=>whnf);first|with_reducible apply aa<;>intro _|refine h1 ?_|refine h2 ?_|refine h3 ?_|(refine h4.use [1] rfl rfl ⟨⟨_,rfl,rfl⟩,tU⟩ ?_;rintro _ _ ⟨rfl,G,rfl⟩;refine ⟨[],?_⟩))
 all_goals (try conv=>whnf)
 all_goals refine eB ?_
 all_goals unfold vn
 all_goals rw[<-hb,<-hc,<-he,<-hf]
 all_goals simp_all
theorem R4{R:aH}{A:Option Addr}{m:Nat}{l:List Bx}(h:rf R A l)(hl:l.length<=1000000):CP [] 412 [.lit (.slice A l.length m)] [.res R] (fun v H'=>v=bA (oJ l)/\∃G,H'=.res R::G):=by
 have gS:∀b:Bx,[(b.x0:Int),(b.y0:Int),(b.x1:Int),(b.y1:Int)].all ze=decide (b.x0<=65535/\b.y0<=65535/\b.x1<=65535/\b.y1<=65535):=fun b=>by
  rw[List.all_cons,List.all_cons,List.all_cons,List.all_cons,List.all_nil,lr,lr,lr,lr,Bool.and_true,Bool.decide_and,Bool.decide_and,Bool.decide_and]
 obtain ⟨p,hp⟩:∃p:Bx->Bool,p=fun b=>decide (b.x0<=65535/\b.y0<=65535/\b.x1<=65535/\b.y1<=65535):=⟨_,rfl⟩;have YU:∀b:Bx,[(b.x0:Int),(b.y0:Int),(b.x1:Int),(b.y1:Int)].all ze=p b:=fun b=>by rw[hp];exact gS b
 have hB:oJ l=(l.all p&&decide (l≠[])):=by rw[hp];rfl
 rw[hB];clear gS hp hB;refine ae U rfl ?_;conv=>whnf
 refine aW U rfl (fun k:Nat=>[(0,.lit (.slice A l.length m)),(5,.lit (.slice A l.length m)),(6,iA l.length),(7,iA (k:Nat))]) (fun _=>[.res R]) (fun k=>k<=l.length/\l.all p=(l.drop k).all p) (fun k=>l.length - k) 0 ⟨Nat.zero_le _,rfl⟩ [0] ?_ ?_
 ·exact ⟨rfl,⟨rr,rr,rr,rr,tU⟩,⟨ko,tU⟩⟩
 ·rintro k ⟨gT,hr⟩;by_cases hk:k<l.length
  ·obtain ⟨a,rfl,bq⟩:=h.rd.at hk;rw[List.drop_eq_getElem_cons hk,List.all_cons] at hr;have hn:=tF (l:=[(l[k].x0:Int),(l[k].y0:Int),(l[k].x1:Int),(l[k].y1:Int)]) (T:=3) (by simp);rw[YU] at hn;conv=>whnf
   refine aa (fun _=>?_) (ck hk);repeat' ((conv=>whnf);first|with_reducible apply aa<;>intro _|refine ai.bJ U rfl rfl rfl rfl rfl hk ?_|refine ai.aR (i:=0) (v:=.agg ((gN l[k]).map .lit)) rfl (fun w S hR=>bq w S hR k hk) rfl rfl ?_|(refine hn.use [2] rfl rfl ⟨⟨_,rfl,rfl⟩,tU⟩ ?_;rintro _ _ ⟨rfl,G,rfl⟩;refine ⟨[],?_⟩))
   all_goals (try conv=>whnf)
   ·rename_i hx;exact ⟨k+1,[0],⟨⟨hk,by rw[hr,hx,Bool.true_and]⟩,by omega⟩,rfl,⟨rr,rr,rr,⟨rfl,aw rfl (aj (by omega) (by omega))⟩,tU⟩,⟨ko,tU⟩⟩
   ·rename_i hx;exact ⟨bh (by rw[hr,hx];rfl),_,rfl⟩
  ·obtain rfl:k=l.length:=by omega
   rw[List.drop_length] at hr;conv=>whnf
   refine aa (cI hk) (fun _=>?_);repeat' ((conv=>whnf);with_reducible apply aa<;>intro _)
   all_goals (try conv=>whnf)
   all_goals refine ⟨eB ?_,_,rfl⟩
   ·rename_i hx;have hx:=of_decide_eq_true hx;have aN:l≠[]:=fun e=>by rw[e] at hx;simp at hx
    rw[hr];simp[aN]
   ·rename_i hx;have hx:=of_decide_eq_false hx;have aN:l=[]:=List.eq_nil_of_length_eq_zero (by omega);simp[aN]
theorem zW{n k:Nat}:(((n:Int)==(k:Int)):Bool)=decide (n=k):=by
 rw[Bool.eq_iff_iff,beq_iff_eq,decide_eq_true_iff];omega
theorem IU{n:Nat}:(((n:Int)==0):Bool)=decide (n=0):=zW (k:=0)
theorem Tr{n:Nat}:(((n:Int)==1):Bool)=decide (n=1):=zW (k:=1)
theorem Ts{n:Nat}:(((n:Int)==2):Bool)=decide (n=2):=zW (k:=2)
theorem Tt{n:Nat}:(((n:Int)==3):Bool)=decide (n=3):=zW (k:=3)
theorem Tu{n:Nat}:(((n:Int)==4):Bool)=decide (n=4):=zW (k:=4)
theorem Tv{n:Nat}:(((n:Int)==5):Bool)=decide (n=5):=zW (k:=5)
theorem Tw{n:Nat}:(((n:Int)==6):Bool)=decide (n=6):=zW (k:=6)
theorem L2{l:List Bx}:decide (l.length=0)=decide (l=[]):=decide_eq_decide.2 List.length_eq_zero_iff
theorem X0{R:aH}{d:Dc}{A:Option Addr}{m:Nat}(h:rf R A d.boxes)(hl:d.boxes.length<=1000000):CP [] 310 [.agg (dA d (.slice A d.boxes.length m))] [.res R] (fun v H'=>v=bA (fx d)/\∃G,H'=.res R::G):=by
 obtain ⟨b1,iN⟩:∃b,b=iP d.name:=⟨_,rfl⟩;obtain ⟨b2,lK⟩:∃b,b=jH d.role:=⟨_,rfl⟩;obtain ⟨b3,ll⟩:∃b,b=nr d:=⟨_,rfl⟩;obtain ⟨b4,AE⟩:∃b,b=oJ d.boxes:=⟨_,rfl⟩;obtain ⟨b5,Cm⟩:∃b,b=nq d:=⟨_,rfl⟩;obtain ⟨b6,Cn⟩:∃b,b=vn d:=⟨_,rfl⟩;obtain ⟨b7,LH⟩:∃b,b=gI d.role:=⟨_,rfl⟩;have k1:∀{S:List Nat} {H:List af} {K:AV->List af->Prop},K (bA b1) H->CP S 408 [.lit (cU d.name)] H K:=fun k=>DR (iN ▸ k);have k2:∀{S:List Nat} {H:List af} {K:AV->List af->Prop},K (bA b2) H->CP S 410 [.agg (wA d.role)] H K:=fun k=>J6 (lK ▸ k);have k3:∀{S:List Nat} {H:List af} {K:AV->List af->Prop} {v:Value},K (bA b3) H->CP S 411 [.agg (dA d v)] H K:=fun k=>PR (ll ▸ k);have k4:=R4 (m:=m) h hl;rw[<-AE] at k4;have k5:∀{S:List Nat} {H:List af} {K:AV->List af->Prop},K (bA b5) H->CP S 413 [.agg (dA d (.slice A d.boxes.length m))] H K:=fun k=>PQ (Cm ▸ k);have k6:∀{S:List Nat} {H:List af} {K:AV->List af->Prop} {v:Value},K (bA b6) H->CP S 414 [.agg (dA d v)] H K:=fun k=>VG (Cn ▸ k);have k7:∀{S:List Nat} {H:List af} {K:AV->List af->Prop},K (bA b7) H->CP S 415 [.agg (wA d.role)] H K:=fun k=>K6 (LH ▸ k);have k8:=tF (l:=[(d.n:Int)]) (T:=3) (by simp);rw[List.all_cons,List.all_nil,Bool.and_true,lr] at k8;refine ae U rfl ?_;refine eP.of rfl rfl ?_;refine aF.au fun F hF=>?_;repeat' ((conv=>whnf);first|with_reducible apply aa<;>intro _|refine k1 ?_|refine k2 ?_|refine k3 ?_|refine k5 ?_|refine k6 ?_|refine k7 ?_|(refine k4.use [0] rfl rfl ⟨ko,tU⟩ ?_;rintro _ _ ⟨rfl,G,rfl⟩;refine ⟨[],?_⟩)|(refine k8.use [2] rfl rfl ⟨⟨_,rfl,rfl⟩,tU⟩ ?_;rintro _ _ ⟨rfl,G,rfl⟩;refine ⟨[],?_⟩)|(show F _ _ _;subst hF;refine aF.au fun F hF=>?_)|(show F _ _ _;subst hF))
 all_goals (try conv=>whnf)
 all_goals refine ⟨eB ?_,_,rfl⟩
 all_goals clear k1 k2 k3 k4 k5 k6 k7 k8
 all_goals unfold fx
 all_goals rw[<-iN,<-lK,<-ll,<-AE,<-Cm,<-Cn,<-LH]
 all_goals clear iN lK ll AE Cm Cn LH hl h
 all_goals (try clear hF F)
 all_goals simp only[Tr,Ts,Tt,Tu,Tv,Tw,IU,L2] at *
 all_goals simp_all
 all_goals (intro hh;omega)
structure pY(R:aH)(A:Option Addr)(m:Nat)(ds:List Dv):Prop where
 rd:eG Tryz.prog R 175 24 A (fun y=>.agg (Qr y.x y.v)) ds
 bx:∀y∈ds,rf R y.A y.x.boxes
 len:ds.length<=1000000/\∀y∈ds,y.x.boxes.length<=1000000
theorem PU{R:aH}{A:Option Addr}{m:Nat}{ds:List Dv}(h:pY R A m ds):CP [] 220 [.lit (.slice A ds.length m)] [.res R] (fun v H'=>v=bA (ds.all fun y=>fx y.x)/\∃G,H'=.res R::G):=by
 obtain ⟨p,hp⟩:∃p:Dv->Bool,p=fun y=>fx y.x:=⟨_,rfl⟩;have Zg:∀y:Dv,fx y.x=p y:=fun y=>by rw[hp]
 rw[<-hp];clear hp;have hn:=h.len.1;refine ae U rfl ?_;conv=>whnf
 refine aW U rfl (fun k:Nat=>[(5,.lit (.slice A ds.length m)),(6,iA ds.length),(7,iA (k:Nat))]) (fun _=>[.res R]) (fun k=>k<=ds.length/\ds.all p=(ds.drop k).all p) (fun k=>ds.length - k) 0 ⟨Nat.zero_le _,rfl⟩ [0] ?_ ?_
 ·exact ⟨rfl,⟨rr,rr,rr,tU⟩,⟨ko,tU⟩⟩
 ·rintro k ⟨gT,hr⟩;by_cases hk:k<ds.length
  ·obtain ⟨a,rfl,bq⟩:=h.rd.at hk;have ig:ds[k]∈ds:=List.getElem_mem hk;rw[List.drop_eq_getElem_cons hk,List.all_cons] at hr;have hm:=X0 (m:=ds[k].cap) (h.bx _ ig) (h.len.2 _ ig);rw[Zg] at hm;conv=>whnf
   refine aa (fun _=>?_) (ck hk);repeat' ((conv=>whnf);first|with_reducible apply aa<;>intro _|refine ai.bJ U rfl rfl rfl rfl rfl hk ?_|refine ai.aR (i:=0) (v:=.agg (dA ds[k].x ds[k].v)) rfl (fun w S hR=>bq w S hR k hk) rfl rfl ?_|(refine hm.use [0] rfl rfl ⟨ko,tU⟩ ?_;rintro _ _ ⟨rfl,G,rfl⟩;refine ⟨[],?_⟩))
   all_goals (try conv=>whnf)
   all_goals rename_i hx
   ·exact ⟨k+1,[0],⟨⟨hk,by rw[hr,hx,Bool.true_and]⟩,by omega⟩,rfl,⟨rr,rr,⟨rfl,aw rfl (aj (by omega) (by omega))⟩,tU⟩,⟨ko,tU⟩⟩
   ·exact ⟨bh (by rw[hr,hx];rfl),_,rfl⟩
  ·obtain rfl:k=ds.length:=by omega
   rw[List.drop_length] at hr;conv=>whnf
   refine aa (cI hk) (fun _=>?_);repeat' ((conv=>whnf);with_reducible apply aa<;>intro _)
   all_goals (try conv=>whnf)
   exact ⟨bh (by rw[hr];rfl),_,rfl⟩
def rA(pl:List (Value×List Bx))(ds:List Dv):Prop:=∀y∈ds,(y.v=aO/\y.x.boxes=[])\/((y.v,y.x.boxes)∈pl/\y.x.boxes≠[]/\∃a,y.A=some a/\a.spot=none)
theorem Ki.dv{pl eu:List (Value×List Bx)}{v:Value}{x:Dc}{ds:List Dv}(h:Ki pl eu v x.boxes)(hd:rA pl ds):∃y:Dv,y.x=x/\y.v=v/\rA eu (ds++[y]):=by
 rcases h with ⟨rfl,h1,rfl⟩|⟨a,k,lM,rfl,h1,rfl⟩
 ·refine ⟨⟨x,none,0⟩,rfl,by unfold Dv.v;simp only[h1];rfl,fun y hy=>?_⟩;rcases List.mem_append.1 hy with hy|hy
  ·exact hd y hy
  ·rw[List.mem_singleton.1 hy];exact .inl ⟨by unfold Dv.v;simp only[h1];rfl,h1⟩
 ·refine ⟨⟨x,some a,k⟩,rfl,rfl,fun y hy=>?_⟩;rcases List.mem_append.1 hy with hy|hy
  ·rcases hd y hy with h|h
   ·exact .inl h
   ·exact .inr ⟨List.mem_append.2 (.inl h.1),h.2⟩
  ·rw[List.mem_singleton.1 hy];exact .inr ⟨by simp[Dv.v],h1,a,rfl,lM⟩
theorem rJ(y:Dv):(ng y).length=24:=rfl
theorem zu:jE ev 82 iz 24:=⟨⟨_,rfl,rfl⟩,_,_,rfl,rfl,rfl,rfl,by decide⟩
theorem OP{A:Option Addr}{m:Nat}{L:List Tk}{e:Nat×Nat}:dB A m L e ⟨L,none⟩=.cells [.lit (.slice A L.length m),iA 0,iA e.1,iA e.2,iA 0,iA 0,iA 0] Fu:=by
 unfold dB;simp only[Nat.sub_self];rfl
theorem Sf.decl{L:List Tk}{p:Pr}(h:Sf L p)(e:Nat×Nat):Sf L (bj e p).2:=by
 unfold bj;simp only[];refine Sf.want ?_ e [59];repeat' split
 ·exact h.on.named e
 ·exact h.on.named e
 ·exact h.on.region e
 ·exact h.on.DJ e
 ·exact h.on.DJ e
 ·exact h.on.Em e
 ·exact (h.aV e).DJ e
structure Yq where
 p:Pr
 pl:List (Value×List Bx)
 rv:Value
 ds:List Dv
def D9(s:List UInt8)(v:AV)(H':List af):Prop:=∃rv ds pl u,v=.tuple [.lit u,.agg (pw (parse s).2)]/\((u=rv/\ds.map Dv.x=(parse s).1)\/(u=aO/\(parse s).1=[]))/\rA pl ds/\ep rv ds/\∃G,H'=.res (ay pl)::.res (aB ng 24 iz rv ds)::G
theorem vM:∀y:Dv,∀u∈ng y,u.oneCell'=true:=Qw.one
theorem O7{s:List UInt8}:CP [] 126 [.lit (cU s)] [.res (ay []),.res (aB ng 24 iz aO [])] (D9 s):=by
 by_cases h0:(dp s).2.err=0
 ·have hlen:s.length<=1000000:=by
   unfold dp at h0;split at h0
   ·cases h0
   ·omega
  have Uo:=D4 s;obtain ⟨r,hr⟩:∃r,r=gV ((jV s).line,(jV s).aS) ((dp s).1.length+1) ⟨(dp s).1,none⟩ []:=⟨_,rfl⟩;have si:parse s=match r.2.bad with
    | none=>(r.1,jK.ok)
    | some b=>([],⟨31,b.1,b.2⟩):=by rw[hr];unfold parse;rw[if_neg (by simpa using h0)];rfl
  unfold D9;rw[si];refine ae U rfl ?_;refine eP.of rfl rfl ?_;refine aF.au fun F hF=>?_;repeat' ((conv=>whnf);first|with_reducible apply aa<;>intro _|refine aJ.drawn U rfl rfl ?_|with_reducible refine And.intro (aG.mk ⟨_,rfl,rfl⟩) ?_|(show F _ _ _;subst hF;refine aF.au fun F hF=>?_)|(show F _ _ _;subst hF)|(refine ag.pre (fP.more (R:=aB oH 5 ow aO []) rfl (bc.jn l7 _)) ?_;refine Pc.use [3] rfl rfl ⟨ko,tU⟩ ?_;rintro _ _ ⟨A,m,R,⟨hT,_⟩,rfl,G,rfl⟩;refine ⟨[],?_⟩)|refine XR hlen ?_|(exfalso;rename_i hx;simp only[bne_iff_ne,ne_eq,Int.natCast_eq_zero] at hx;exact hx h0))
  obtain ⟨e,he⟩:∃e,e=((jV s).line,(jV s).aS):=⟨_,rfl⟩;have e1:(jV s).line=e.1:=by rw[he]
  have e2:(jV s).aS=e.2:=by rw[he]
  rw[<-he] at hr;rw[e1,e2];clear e1 e2 he si;obtain ⟨L,hL⟩:∃L,L=(dp s).1:=⟨_,rfl⟩;rw[<-hL] at hT hr Uo ⊢;clear hL;refine aW U rfl (fun q:Yq=>[(3,.ptr 2 0),(4,.lit (.slice A L.length m)),(6,.ptr 4 0),(7,.lit q.rv)]) (fun q=>[.res (ay q.pl),.res (aB ng 24 iz q.rv q.ds),.cells [iA 0,iA 0,iA 0] 86,.res R,dB A m L e q.p])
   (fun q=>Sf L q.p/\rA q.pl q.ds/\ep q.rv q.ds/\(∃k,r=gV e k q.p (q.ds.map Dv.x)/\(q.p.bad=none->q.p.l.length<k))/\q.ds.length+(q.p.l.length+(if q.p.bad=none then 1 else 0))<=600) (fun q=>2 * q.p.l.length+(if q.p.bad=none then 1 else 0)) ⟨⟨L,none⟩,[],aO,[]⟩ ⟨⟨0,Nat.zero_le _,rfl⟩,(fun y hy=>by cases hy),.inl ⟨rfl,rfl⟩,⟨_,hr,fun _=>Nat.lt_succ_self _⟩,by show 0+(L.length+1)<=600;omega⟩ [0,1,2,3,5] ?_ ?_
  ·exact ⟨rfl,⟨rr,rr,rr,rr,tU⟩,⟨ko,ko,⟨_,rfl,rfl⟩,ko,⟨_,rfl,by (show rh _ ((dB A m L e ⟨L,none⟩).cG _);rw[OP];rfl)⟩,tU⟩⟩
  ·rintro ⟨p,pl,rv,ds⟩ ⟨hs,ha,hv,⟨k,hk,cB⟩,fD⟩;simp only[] at hs ha hv hk cB fD;rcases hp:p with ⟨l,_|b⟩
   ·by_cases j6:l=[]
    ·subst j6;subst hp;rw[mD _ _ _ _ (.inl rfl)] at hk;subst hk;rcases hv with ⟨rfl,rfl⟩|⟨A0,c0,rfl⟩;all_goals
      conv=>whnf
      repeat' ((conv=>whnf);first|with_reducible apply aa<;>intro _|refine aJ.drawn U rfl rfl ?_|with_reducible refine And.intro (aG.mk ⟨_,rfl,rfl⟩) ?_|(exfalso;rename_i hx;have:=of_decide_eq_true hx;simp at this;done)|(show F _ _ _;subst hF))
      all_goals (try conv=>whnf)
     ·exact ⟨aO,[],pl,aO,rfl,.inl ⟨rfl,rfl⟩,ha,.inl ⟨rfl,rfl⟩,_,rfl⟩
     ·exact ⟨_,ds,pl,_,rfl,.inl ⟨rfl,rfl⟩,ha,.inr ⟨A0,c0,rfl⟩,_,rfl⟩
    ·subst hp;obtain ⟨k,rfl⟩:∃k',k=k'+1:=⟨k - 1,by have:=cB rfl;omega⟩;rw[yJ _ _ _ _ j6 rfl] at hk;have hc:=Vx (m:=m) (e:=e) (pl:=pl) hT hs;have zb:=Ah e ⟨l,none⟩;have Q2:Sf L (bj e ⟨l,none⟩).2:=hs.decl e;have cB:=cB rfl;have fD:ds.length+(l.length+1)<=600:=fD;obtain ⟨⟨x,q⟩,hq⟩:∃z,z=bj e ⟨l,none⟩:=⟨_,rfl⟩;rw[<-hq] at hk hc zb Q2;clear hq;simp only[] at hk hc zb Q2 cB fD;have QQ:0<l.length:=List.length_pos_iff.2 j6;have o9:l.length<=L.length:=hs.le;have za:q.bad=none->q.l.length<k:=fun h=>by
      rcases zb with h1|h1
      ·omega
      ·exact absurd h h1.1
     have tM:2 * q.l.length+(if q.bad=none then 1 else 0)<2 * l.length+1:=by
      rcases zb with h1|h1
      ·split<;>omega
      ·rw[if_neg h1.1];omega
     have Cq:q.l.length+(if q.bad=none then 1 else 0)<l.length+1:=by
      rcases zb with h1|h1
      ·split<;>omega
      ·rw[if_neg h1.1];omega
     rcases hv with ⟨rfl,rfl⟩|⟨A0,c0,rfl⟩
     ·conv=>whnf
      repeat' ((conv=>whnf);first|with_reducible apply aa<;>intro _|refine aJ.drawn U rfl rfl ?_|with_reducible refine And.intro (aG.mk ⟨_,rfl,rfl⟩) ?_|(exfalso;rename_i hx;have:=of_decide_eq_false hx;simp at this;omega)|(refine hc.use [4,3,0] rfl rfl ⟨⟨_,rfl,rfl⟩,ko,ko,tU⟩ ?_;rintro _ _ ⟨v,eu,rfl,hb,G,rfl⟩;obtain ⟨y,rfl,rfl,xw⟩:=hb.dv ha;refine ⟨[],?_⟩)|(refine dP.om (eU.k9 U zu rJ (by decide) vM (i:=1) (y:=y) (l:=([]:List Dv)) (v:=aO) (R1:=aA) (R':=fun v'=>aB ng 24 iz v' (([]:List Dv)++[y])) rfl rfl rfl rfl rfl rfl rfl gD (fun v'=>iI) (by first|omega|(simp;done)) ?_);intro A2 m2))
      all_goals (try conv=>whnf)
      exact ⟨⟨q,eu,.slice (some A2) (([]:List Dv).length+1) m2,([]:List Dv)++[y]⟩,[0,1,2,3,4],⟨⟨Q2,xw,.inr ⟨A2,m2,by simp⟩,⟨k,by rw[List.map_append];exact hk,za⟩,by simp only[List.length_append,List.length_singleton,List.length_nil] at fD ⊢;omega⟩,tM⟩,rfl,⟨rr,rr,rr,rr,tU⟩,⟨ko,ko,⟨_,rfl,rfl⟩,ko,⟨_,rfl,rfl⟩,tU⟩⟩
     ·conv=>whnf
      repeat' ((conv=>whnf);first|with_reducible apply aa<;>intro _|refine aJ.drawn U rfl rfl ?_|with_reducible refine And.intro (aG.mk ⟨_,rfl,rfl⟩) ?_|(exfalso;rename_i hx;have:=of_decide_eq_false hx;simp at this;omega)|(refine hc.use [4,3,0] rfl rfl ⟨⟨_,rfl,rfl⟩,ko,ko,tU⟩ ?_;rintro _ _ ⟨v,eu,rfl,hb,G,rfl⟩;obtain ⟨y,rfl,rfl,xw⟩:=hb.dv ha;refine ⟨[],?_⟩)|(refine ai.om (eU.k9 U zu rJ (by decide) vM (i:=1) (y:=y) (l:=ds) (v:=(.slice (some A0) ds.length c0)) (R1:=aA) (R':=fun v'=>aB ng 24 iz v' (ds++[y])) rfl rfl rfl rfl rfl rfl rfl gD (fun v'=>iI) (by first|omega|(simp;done)) ?_);intro A2 m2))
      all_goals (try conv=>whnf)
      exact ⟨⟨q,eu,.slice (some A2) (ds.length+1) m2,ds++[y]⟩,[0,1,2,3,4],⟨⟨Q2,xw,.inr ⟨A2,m2,by simp⟩,⟨k,by rw[List.map_append];exact hk,za⟩,by simp only[List.length_append,List.length_singleton,List.length_nil] at fD ⊢;omega⟩,tM⟩,rfl,⟨rr,rr,rr,rr,tU⟩,⟨ko,ko,⟨_,rfl,rfl⟩,ko,⟨_,rfl,rfl⟩,tU⟩⟩
   ·subst hp;rw[mD _ _ _ _ (.inr (by simp))] at hk;subst hk;rcases hv with ⟨rfl,rfl⟩|⟨A0,c0,rfl⟩;all_goals
     conv=>whnf
     repeat' ((conv=>whnf);first|with_reducible apply aa<;>intro _|refine aJ.drawn U rfl rfl ?_|with_reducible refine And.intro (aG.mk ⟨_,rfl,rfl⟩) ?_|(show F _ _ _;subst hF))
     all_goals (try conv=>whnf)
    ·exact ⟨aO,[],pl,aO,rfl,.inr ⟨rfl,rfl⟩,ha,.inl ⟨rfl,rfl⟩,_,rfl⟩
    ·exact ⟨aO,[],pl,aO,rfl,.inr ⟨rfl,rfl⟩,ha,.inl ⟨rfl,rfl⟩,_,rfl⟩
    ·exact ⟨_,ds,pl,aO,rfl,.inr ⟨rfl,rfl⟩,ha,.inr ⟨A0,c0,rfl⟩,_,rfl⟩
    ·exact ⟨_,ds,pl,aO,rfl,.inr ⟨rfl,rfl⟩,ha,.inr ⟨A0,c0,rfl⟩,_,rfl⟩
 ·have si:parse s=([],(dp s).2):=by unfold parse;rw[if_pos h0]
  unfold D9;rw[si];refine ae U rfl ?_;refine eP.of rfl rfl ?_;refine aF.au fun F hF=>?_;repeat' ((conv=>whnf);first|with_reducible apply aa<;>intro _|refine aJ.drawn U rfl rfl ?_|with_reducible refine And.intro (aG.mk ⟨_,rfl,rfl⟩) ?_|(show F _ _ _;subst hF;refine aF.au fun F hF=>?_)|(show F _ _ _;subst hF)|(refine ag.pre (fP.more (R:=aB oH 5 ow aO []) rfl (bc.jn l7 _)) ?_;refine Pc.use [3] rfl rfl ⟨ko,tU⟩ ?_;rintro _ _ ⟨A,m,R,⟨hT,_⟩,rfl,G,rfl⟩;refine ⟨[],?_⟩)|(exfalso;rename_i hx;simp only[bne_eq_false_iff_eq,Int.natCast_eq_zero] at hx;exact h0 hx))
  all_goals (try conv=>whnf)
  exact ⟨aO,[],[],aO,rfl,.inr ⟨rfl,rfl⟩,(fun y hy=>by cases hy),.inl ⟨rfl,rfl⟩,_,rfl⟩
end Go.Proofs.YtmbdghclhpboaaaGreat
namespace Go.Proofs.YtmbdghclhpboaaaGreat
theorem Dw:∀(k:Nat) (l:List UInt8) (p:Pt) (out:List Tk),(iQ k l p out).1.length<=out.length+k
 | 0,_,_,out=>Nat.le_refl _
 | k+1,l,p,out=>by
   unfold iQ;simp only;split
   ·exact Nat.le_add_right _ _
   ·split
    ·refine Nat.le_trans (Dw k _ _ _) ?_;rw[List.length_append];simp only[List.length_cons,List.length_nil];omega
    ·exact Nat.zero_le _
theorem HE(s:List UInt8):(dp s).1.length<=513:=by
 unfold dp;split
 ·exact Nat.zero_le _
 ·have:=Dw (s.length+1) s Pt.zero [];simp only[List.length_nil] at this;omega
theorem Hz(e:Nat×Nat):∀(k:Nat) (p:Pr) (out:List Bx),(fu e k p out).1.length<=out.length+k
 | 0,_,out=>Nat.le_refl _
 | k+1,p,out=>by
   unfold fu;split
   ·refine Nat.le_trans (Hz e k _ _) ?_;rw[List.length_append];simp only[List.length_cons,List.length_nil];omega
   ·exact Nat.le_add_right _ _
theorem Mq(e:Nat×Nat)(p:Pr):(bt e p).1.length<=p.l.length+1:=by
 have:=Hz e p.l.length (gG e p).2 [(gG e p).1];simp only[List.length_cons,List.length_nil] at this;unfold bt;omega
theorem HQ(e:Nat×Nat)(d:Dc)(p:Pr):(ei e d p).1.boxes.length<=p.l.length+1:=by
 unfold ei;exact Nat.le_trans (Mq e _) (Nat.add_le_add_right (Nat.le_trans (gy e _ _) (sy e p)) 1)
theorem yQ(e:Nat×Nat)(d:Dc)(p:Pr):(de e d p).1.boxes=d.boxes:=rfl
theorem Gh(e:Nat×Nat)(p:Pr):(bj e p).1.boxes.length<=p.l.length+1:=by
 have ho:=sA p;unfold bj;simp only;repeat' split
 all_goals first
  | exact Nat.zero_le _
  | (refine Nat.le_trans (HQ e _ _) ?_;omega)
theorem FM(e:Nat×Nat):∀(k:Nat) (p:Pr) (out:List Dc),(gV e k p out).1.length<=out.length+k
 | 0,_,out=>Nat.le_refl _
 | k+1,p,out=>by
   unfold gV;split
   ·exact Nat.le_add_right _ _
   ·refine Nat.le_trans (FM e k _ _) ?_;rw[List.length_append];simp only[List.length_cons,List.length_nil];omega
theorem Nu(e:Nat×Nat)(p:Pr):(bj e p).2.l.length<=p.l.length:=by
 rcases Ah e p with h|h
 ·omega
 ·exact h.2
theorem zS(e:Nat×Nat)(n:Nat):∀(k:Nat) (p:Pr) (out:List Dc),p.l.length<=n->(∀d∈out,d.boxes.length<=n+1)->∀d∈(gV e k p out).1,d.boxes.length<=n+1
 | 0,_,out,_,h=>h
 | k+1,p,out,hp,h=>by
   unfold gV;split
   ·exact h
   ·refine zS e n k _ _ (Nat.le_trans (Nu e p) hp) fun d hd=>?_;rcases List.mem_append.1 hd with h1|h1
    ·exact h d h1
    ·rw[List.mem_singleton.1 h1];have:=Gh e p;omega
theorem Bm(s:List UInt8):(parse s).1.length<=514:=by
 unfold parse;split
 ·exact Nat.zero_le _
 ·simp only;split
  ·refine Nat.le_trans (FM _ _ _ _) ?_;have:=HE s;simp only[List.length_nil];omega
  ·exact Nat.zero_le _
theorem wH(s:List UInt8):∀d∈(parse s).1,d.boxes.length<=514:=by
 unfold parse;split
 ·intro d hd;simp at hd
 ·simp only;split
  ·exact zS _ 513 _ _ _ (HE s) (fun d hd=>by simp at hd)
  ·intro d hd;simp at hd
end Go.Proofs.YtmbdghclhpboaaaGreat
namespace Go.Proofs.YtmbdghclhpboaaaGreat
open Ev
theorem oh(w:World):(ay []).at_ w fun _=>False:=fun _ h=>h
def uL(rv:Value)(ds:List Dv)(pl:List (Value×List Bx)):aH:=aH.star [ay pl,aB ng 24 iz rv ds]
theorem te{rv:Value}{ds:List Dv}{pl:List (Value×List Bx)}{w:World}{S:Nat->Prop}(h:(uL rv ds pl).at_ w S):(∃S1,(ay pl).at_ w S1)/\∃S2,(aB ng 24 iz rv ds).at_ w S2:=by
 obtain ⟨S1,_,h1,_⟩:=db (i:=0) h rfl;obtain ⟨S2,_,h2,_⟩:=db (i:=1) h rfl;exact ⟨⟨S1,h1⟩,S2,h2⟩
theorem C5{rv:Value}{ds:List Dv}{pl:List (Value×List Bx)}(w:World)(S1 S2:Nat->Prop)(h1:(ay pl).at_ w S1)(h2:(aB ng 24 iz rv ds).at_ w S2)(hd:∀b,S1 b->S2 b->False):(uL rv ds pl).at_ w (fun b=>S1 b\/S2 b):=
 ⟨S1,S2,h1,⟨S2,fun _=>False,h2,fun _ h=>h,fun _ _ h=>h,fun b=>by simp⟩,hd,fun b=>Iff.rfl⟩
theorem C4{A:Addr}{m:Nat}{ds:List Dv}{pl:List (Value×List Bx)}(ha:rA pl ds)(hl:ds.length<=1000000/\∀y∈ds,y.x.boxes.length<=1000000):pY (uL (.slice (some A) ds.length m) ds pl) (some A) m ds where
 rd:=fun aN=>by
  by_cases hw:∃w S,(uL (.slice (some A) ds.length m) ds pl).at_ w S
  ·obtain ⟨w0,S0,h0⟩:=hw;obtain ⟨_,S2,h2⟩:=te h0;obtain ⟨b,off,e,_,_⟩:=j8 h2.1 aN;cases e
   refine eG.lay U (enc:=ng) rJ Qv (fun _=>⟨b,off,rfl,fun w S h=>?_⟩) aN;obtain ⟨_,S3,h3⟩:=te h;obtain ⟨b',KO,e,_,nT⟩:=j8 h3.1 aN;cases e
   exact nT
  ·exact ⟨A,rfl,fun w S h=>absurd ⟨w,S,h⟩ hw⟩
 bx:=fun y hy=>by
  rcases ha y hy with ⟨_,h⟩|⟨h1,h2,a,h3,h4⟩
  ·rw[h];exact ⟨fun h=>absurd rfl h,fun h=>absurd rfl h⟩
  ·have key:∀w S,(uL (.slice (some A) ds.length m) ds pl).at_ w S->gZ w a.block a.off (y.x.boxes.flatMap gN):=fun w S h=>by
    obtain ⟨⟨S1,k1⟩,_⟩:=te h;obtain ⟨oa,c,e,k2⟩:=Bt h1 w S1 k1;obtain ⟨b,off,rfl,k3⟩:=k2 h2;unfold Dv.v at e;simp only[h3,Value.slice.injEq,Option.some.injEq] at e;rw[e.1];exact k3
   have ea:y.A=some ⟨a.block,a.off,none⟩:=by rw[h3,<-h4]
   exact ⟨eG.lay U (fun _=>rfl) Kt fun _=>⟨_,_,ea,key⟩,fun _ w S h=>⟨_,_,ea,key w S h⟩⟩
 len:=hl
def Qf(s:List UInt8)(v:AV)(H':List af):Prop:=∃A m ds R,ds.map Dv.x=(parse s).1/\pY R A m ds/\v=.tuple [.lit (.slice A ds.length m),.agg (pw (parse s).2)]/\∃G,H'=.res R::G
theorem Kz{R:aH}:pY R none 0 []:=⟨fun h=>absurd rfl h,fun y hy=>(by cases hy),by decide,fun y hy=>(by cases hy)⟩
theorem O8{s:List UInt8}:CP [] 126 [.lit (cU s)] [] (Qf s):=by
 refine ag.post (ag.pre (fP.more (R:=ay []) rfl (bc.jn oh _)) (ag.pre (fP.more (R:=aB ng 24 iz aO []) rfl (bc.jn l7 _)) O7)) ?_;rintro _ _ ⟨rv,ds,pl,u,rfl,hu,ha,hv,G,rfl⟩;rcases hu with ⟨rfl,hp⟩|⟨rfl,hp⟩
 ·have hlen:ds.length<=1000000/\∀y∈ds,y.x.boxes.length<=1000000:=by
   refine ⟨?_,fun y hy=>?_⟩
   ·have h:=Bm s;rw[<-hp,List.length_map] at h;omega
   ·have h:=wH s y.x (by rw[<-hp];exact List.mem_map_of_mem hy);omega
  refine ⟨.res (uL u ds pl)::.res aA::G,fP.same rfl ((bc.merge (i:=0) (j:=1) rfl rfl rfl C5).trans (.of_eq rfl)),?_⟩;rcases hv with ⟨rfl,rfl⟩|⟨A,m,rfl⟩
  ·exact ⟨none,0,[],_,hp,Kz,rfl,_,rfl⟩
  ·exact ⟨some A,m,ds,_,hp,C4 ha hlen,rfl,_,rfl⟩
 ·exact ⟨_,fP.same rfl (.refl _),none,0,[],ay pl,by rw[hp];rfl,Kz,rfl,_,rfl⟩
theorem FZ{d:Dc}{r:List Dc}{c:Ck}:jO (d::r) c=if (dJ d c).fault.err=0 then jO r (dJ d c) else dJ d c:=rfl
structure VV where
 k:Nat
 c:Ck
 gs:List lI
 pl:List (Value×List Bx)
 rv:Value
 rs:List cL
def V8(R:aH)(s:VV):List af:=[.res R,.cells [iA 0,iA 0,iA 0] 86,.map [(iA 1,.map 3,0),(iA 2,.map 4,1)] 2,.br (mE cU CA s.c.jT),.br (mE cU CA s.c.labels),.br (mE cU id (s.gs.map fun g=>(g.n,g.v))),.cells [.map 2,.map 5,.lit s.rv,iA s.c.boxes,iA s.c.fault.err,iA s.c.fault.line,iA s.c.fault.aS] X2,.res (ay s.pl),.res (aB eD 7 fN s.rv s.rs)]
def MY(R:aH)(q:List Rl×jK)(v:AV)(H':List af):Prop:=
 (∃rv rs pl G1 G2 G3 G4 G5 G6 G,q=(rs.map cL.x,jK.ok)/\(∀y∈rs,uz pl y)/\((rv=aO/\rs=[])\/∃A m,rv=.slice (some A) rs.length m)/\v=.tuple [.lit rv,.agg [iA 0,iA 0,iA 0]]/\rs.length<=32/\H'=[.res R,G1,G2,G3,G4,G5,G6,.res (ay pl),.res (aB eD 7 fN rv rs)]++G) \/
 (∃f G,q=([],f)/\f.err≠0/\v=.tuple [.lit aO,.agg (pw f)]/\H'=.res R::G)
theorem KQ(w:World):(aB eD 7 fN aO []).at_ w fun _=>False:=⟨Own.nil,fun b=>by simp[aO,Value.ownBlock]⟩
theorem RG{R:aH}{A:Option Addr}{m:Nat}{ds:List Dv}(h:pY R A m ds):CP [] 127 [.lit (.slice A ds.length m)] [.res R] (MY R (check (ds.map Dv.x))):=by
 refine ae U rfl ?_;repeat' ((conv=>whnf);first|with_reducible apply aa<;>intro _|refine aJ.drawn U rfl rfl ?_|with_reducible refine And.intro (aG.mk ⟨_,rfl,rfl⟩) ?_|(refine (PU h).use [0] rfl rfl ⟨ko,tU⟩ ?_;rintro _ _ ⟨rfl,G0,rfl⟩;refine ⟨[],?_⟩)|refine ai.OB (.inr rfl) rfl rfl rfl rfl rfl rfl rfl rfl rfl ?_)
 all_goals (try conv=>whnf)
 ·rename_i hr;have Xf:∀y∈ds,fx y.x=true:=List.all_eq_true.1 hr;have kz:check (ds.map Dv.x)=if (jO (ds.map Dv.x) Ck.zero).fault.err=0 then ((jO (ds.map Dv.x) Ck.zero).rules,jK.ok) else ([],(jO (ds.map Dv.x) Ck.zero).fault):=by
   unfold check;rw[if_neg];simp only[List.all_map,Function.comp_def,hr,Bool.not_true,Bool.false_eq_true,not_false_eq_true]
  refine aJ.wk (.same (.same (.same (.map (fs:=[]) rfl rfl (by simp) (.map (fs:=[]) rfl rfl (by simp) (.map (fs:=[]) rfl rfl (by simp) (.same .nil))))))) ?_;refine aJ.pre (fP.more (R:=ay []) rfl (bc.jn oh _)) ?_;refine aJ.pre (fP.more (R:=aB eD 7 fN aO []) rfl (bc.jn KQ _)) ?_;refine aW U rfl (fun s:VV=>[(3,.ptr 1 0),(4,.ptr 6 0),(18,.lit (.slice A ds.length m)),(19,iA ds.length),(20,iA (s.k:Nat))]) (V8 R)
   (fun s=>s.k<=ds.length/\Cf s.c s.gs s.pl s.rv s.rs/\s.c.rules.length<=32/\s.c.boxes<=32/\s.c.fault.err=0/\jO (ds.map Dv.x) Ck.zero=jO ((ds.drop s.k).map Dv.x) s.c) (fun s=>ds.length - s.k) ⟨0,Ck.zero,[],[],aO,[]⟩ ⟨Nat.zero_le _,⟨⟨rfl,fun g hg=>by simp at hg⟩,rfl,fun y hy=>by simp at hy,.inl ⟨rfl,rfl⟩⟩,by decide,by decide,rfl,rfl⟩ [0,1,2,3,4,5,6,7,8] ?_ ?_
  ·exact ⟨rfl,⟨rr,rr,rr,rr,rr,tU⟩,⟨ko,⟨_,rfl,rfl⟩,⟨_,rfl,rfl⟩,⟨_,rfl,rfl⟩,⟨_,rfl,rfl⟩,⟨_,rfl,rfl⟩,⟨_,rfl,rfl⟩,ko,ko,tU⟩⟩
  ·rintro ⟨k,c,gs,pl,rv,rs⟩ ⟨gT,hi,kU,hb,hf,jF⟩;simp only[] at gT hi kU hb hf jF;by_cases hk:k<ds.length
   ·obtain ⟨a,rfl,bq⟩:=h.rd.at hk;have ig:ds[k]∈ds:=List.getElem_mem hk;rw[List.drop_eq_getElem_cons hk,List.map_cons,FZ] at jF;conv=>whnf
    refine aa (fun _=>?_) (ck hk);repeat' ((conv=>whnf);first|with_reducible apply aa<;>intro _|refine aJ.drawn U rfl rfl ?_|with_reducible refine And.intro (aG.mk ⟨_,rfl,rfl⟩) ?_|refine ai.bJ U rfl rfl rfl rfl rfl hk ?_|refine ai.aR (i:=0) (v:=.agg (dA ds[k].x ds[k].v)) rfl (fun w S hR=>bq w S hR k hk) rfl rfl ?_|(refine (Qn (m:=ds[k].cap) hi kU hb (Xf _ ig) (h.bx _ ig) (h.len.2 _ ig)).use [6,2,3,4,5,7,8,0] rfl rfl ⟨⟨_,rfl,rfl⟩,⟨_,rfl,rfl⟩,⟨_,rfl,rfl⟩,⟨_,rfl,rfl⟩,⟨_,rfl,rfl⟩,ko,ko,ko,tU⟩ ?_;rintro _ _ ⟨rfl,Ey,eu,zk,zi,j4,G,rfl⟩;refine ⟨[],?_⟩))
    all_goals (try conv=>whnf)
    all_goals
     rename_i hx
     simp only[bne_iff_ne,ne_eq,bne_eq_false_iff_eq,Int.natCast_eq_zero] at hx
    ·have e:check (ds.map Dv.x)=([],(dJ ds[k].x c).fault):=by
      rw[kz,jF,if_neg hx,if_neg hx]
     rw[e];exact .inr ⟨_,_,rfl,hx,rfl,rfl⟩
    ·rw[if_pos hx] at jF;obtain ⟨h1,h2⟩:=IW kU hb hx;exact ⟨⟨k+1,dJ ds[k].x c,Ey,eu,zk,zi⟩,[0,1,2,3,4,5,6,7,8],⟨⟨hk,j4,h1,h2,hx,jF⟩,by show ds.length - (k+1)<ds.length - k;omega⟩,rfl,⟨rr,rr,rr,rr,⟨rfl,aw rfl (aj (by have:=h.len.1;dsimp only;omega) (by have:=h.len.1;dsimp only;omega))⟩,tU⟩,⟨ko,⟨_,rfl,rfl⟩,⟨_,rfl,rfl⟩,⟨_,rfl,rfl⟩,⟨_,rfl,rfl⟩,⟨_,rfl,rfl⟩,⟨_,rfl,rfl⟩,ko,ko,tU⟩⟩
   ·obtain rfl:k=ds.length:=by omega
    rw[List.drop_length] at jF;have e:check (ds.map Dv.x)=(rs.map cL.x,jK.ok):=by
     rw[kz,jF];show (if c.fault.err=0 then (c.rules,jK.ok) else _)=_
     rw[if_pos hf,hi.r]
    have cJ:rs.length<=32:=by rw[hi.r,List.length_map] at kU;exact kU
    have W0:=hi.b;rw[e];rcases hi.v with ⟨rfl,rfl⟩|⟨A3,m3,rfl⟩
    ·conv=>whnf
     refine aa (cI hk) (fun _=>?_);repeat' ((conv=>whnf);first|with_reducible apply aa<;>intro _|refine aJ.drawn U rfl rfl ?_|with_reducible refine And.intro (aG.mk ⟨_,rfl,rfl⟩) ?_ )
     all_goals (try conv=>whnf)
     exact .inl ⟨aO,[],pl,_,_,_,_,_,_,_,rfl,W0,.inl ⟨rfl,rfl⟩,rfl,cJ,rfl⟩
    ·conv=>whnf
     refine aa (cI hk) (fun _=>?_);repeat' ((conv=>whnf);first|with_reducible apply aa<;>intro _|refine aJ.drawn U rfl rfl ?_|with_reducible refine And.intro (aG.mk ⟨_,rfl,rfl⟩) ?_ )
     all_goals (try conv=>whnf)
     exact .inl ⟨_,rs,pl,_,_,_,_,_,_,_,rfl,W0,.inr ⟨A3,m3,rfl⟩,rfl,cJ,rfl⟩
 ·rename_i hr;have kz:check (ds.map Dv.x)=([],⟨1,0,0⟩):=by
   unfold check;rw[if_pos];simp only[List.all_map,Function.comp_def,hr,Bool.not_false]
  rw[kz];exact .inr ⟨⟨1,0,0⟩,_,rfl,by decide,rfl,rfl⟩
def Lg(q:List Rl×jK)(v:AV)(H':List af):Prop:=
 (∃rv rs pl,q=(rs.map cL.x,jK.ok)/\(∀y∈rs,uz pl y)/\((rv=aO/\rs=[])\/∃A m,rv=.slice (some A) rs.length m)/\v=.tuple [.lit rv,.agg [iA 0,iA 0,iA 0]]/\rs.length<=32/\∃G1 G2 G3 G,H'=[G1,G2,G3,.res (ay pl),.res (aB eD 7 fN rv rs)]++G) \/
 (∃f,q=([],f)/\f.err≠0/\v=.tuple [.lit aO,.agg (pw f)])
theorem VA{s:List UInt8}:CP [] 49 [.lit (cU s)] [] (Lg (gE s)):=by
 refine ae U rfl ?_;repeat' ((conv=>whnf);first|with_reducible apply aa<;>intro _|refine aJ.drawn U rfl rfl ?_|with_reducible refine And.intro (aG.mk ⟨_,rfl,rfl⟩) ?_|(refine (O8 (s:=s)).use [] rfl rfl trivial ?_;rintro _ _ ⟨A,m,ds,R,h1,h2,rfl,G,rfl⟩;refine ⟨[0],?_⟩)|(refine (RG h2).use [1] rfl rfl ⟨ko,tU⟩ ?_;rintro _ _ (⟨_,rs,pl,G1,G2,G3,G4,G5,G6,G,hq,hb,(⟨rfl,rfl⟩|⟨A3,m3,rfl⟩),rfl,hl,rfl⟩|⟨f,G,hq,hf,rfl,rfl⟩);refine ⟨[7,8],?_⟩;rotate_left;refine ⟨[7,8],?_⟩;rotate_left;refine ⟨[],?_⟩;rotate_left))
 all_goals (try conv=>whnf)
 ·rename_i hx;simp only[bne_iff_ne,ne_eq,Int.natCast_eq_zero] at hx;have e:gE s=([],(parse s).2):=by unfold gE;rw[if_neg hx]
  exact .inr ⟨_,e,hx,rfl⟩
 all_goals
  have e:gE s=check (ds.map Dv.x):=by
   have hx:(((parse s).2.err:Int) != 0)=false:=by assumption
   simp only[bne_eq_false_iff_eq,Int.natCast_eq_zero] at hx;unfold gE;rw[if_pos hx,h1]
  rw[hq] at e
 ·exact .inl ⟨_,_,pl,e,hb,.inl ⟨rfl,rfl⟩,rfl,hl,_,_,_,_,rfl⟩
 ·exact .inl ⟨_,rs,pl,e,hb,.inr ⟨A3,m3,rfl⟩,rfl,hl,_,_,_,_,rfl⟩
 ·exact .inr ⟨f,e,hf,rfl⟩
end Go.Proofs.YtmbdghclhpboaaaGreat
