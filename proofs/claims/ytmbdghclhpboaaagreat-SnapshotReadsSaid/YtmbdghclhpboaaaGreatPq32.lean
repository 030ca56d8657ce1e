/- Part of the proof: PolS Ppr4 PolP3 Ppr5 RulC Rul4. Conditions: as each states. -/
import Derived.Test.YtmbdghclhpboaaaGreatPq31
set_option linter.all false
set_option maxRecDepth 100000
namespace Go.Proofs.YtmbdghclhpboaaaGreat
open Ev
theorem vP(g:Nat->Nat):∀l:List Int,AV.eN g (l.map iA)=l.map iA
 | []=>rfl
 | a::l=>by rw[List.map_cons,AV.eN,vP g l];rfl
def Ac(n:Int):Bool:=decide (0<=n)&&decide (n<=65535)
theorem uI{l:List Int}{T:TypeId}(hl:l.length<=1000):CP [] 409 [.slice 0 0 l.length (.k l.length)] [.cells (l.map iA) T] (fun v H'=>v=bA (l.all Ac)/\∃G,H'=.cells (l.map iA) T::G):=by
 refine ag aa rfl ?_;conv=>whnf
 refine aV aa rfl (fun k:Nat=>[(5,.slice 0 0 l.length (.k l.length)),(6,iA l.length),(7,iA (k:Nat))]) (fun _=>[.cells (l.map iA) T]) (fun k=>k<=l.length/\l.all Ac=(l.drop k).all Ac) (fun k=>l.length - k) 0 ⟨Nat.zero_le _,rfl⟩ [0] ?_ ?_
 ·exact ⟨rfl,⟨rr,rr,rr,tU⟩,⟨⟨_,rfl,by
   show vw (.cells (l.map iA) T)=vw (.cells (AV.eN _ (l.map iA)) T)
   rw[vP]⟩,tU⟩⟩
 ·rintro k ⟨gl,hr⟩;by_cases hk:k<l.length
  ·rw[List.drop_eq_getElem_cons hk,List.all_cons] at hr;have dz:(l.map iA)[0+k * 1]?=some (iA l[k]):=by simp[hk]
   conv=>whnf
   refine af (fun _=>?_) (bT hk);repeat' ((conv=>whnf);first|with_reducible apply af<;>intro _|refine aO.of (k:=k) rfl hk ?_|rw[dz])
   all_goals (try conv=>whnf)
   ·rename_i hx;have hx:=dT1 hx;exact ⟨bc (by rw[hr];unfold Ac;rw[decide_eq_false (by omega)];rfl),[],rfl⟩
   ·rename_i hx hy;have hy:=dT1 hy;exact ⟨bc (by rw[hr];unfold Ac;rw[decide_eq_false (p:=l[k]<=65535) (by omega),Bool.and_false];rfl),[],rfl⟩
   ·rename_i hx hy;have hx:=dF1 hx;have hy:=dF1 hy;have e:Ac l[k]=true:=by unfold Ac;rw[decide_eq_true (by omega),decide_eq_true (by omega)];rfl
    rw[e,Bool.true_and] at hr;exact ⟨k+1,[0],⟨⟨hk,hr⟩,by omega⟩,rfl,⟨rr,rr,⟨rfl,ax rfl (ak (by omega) (by omega))⟩,tU⟩,⟨⟨_,rfl,by
     show vw (.cells (l.map iA) T)=vw (.cells (AV.eN _ (l.map iA)) T)
     rw[vP]⟩,tU⟩⟩
  ·obtain rfl:k=l.length:=by omega
   rw[List.drop_length] at hr;conv=>whnf
   refine af (cF hk) (fun _=>?_);repeat' ((conv=>whnf);with_reducible apply af<;>intro _)
   all_goals (try conv=>whnf)
   exact ⟨bc (by rw[hr];rfl),[],rfl⟩
theorem fe{a b:Bool}(h:a=b):AV.lit (.bool a)=bA b:=by rw[h]
theorem lW{n:Nat}:Ac (n:Int)=decide (n<=65535):=by
 unfold Ac;rw[decide_eq_true (by omega),Bool.true_and];exact decide_eq_decide.2 ⟨fun h=>by omega,fun h=>by omega⟩
theorem LC{S:List Nat}{H:List ai}{K:AV->List ai->Prop}{x:gw}(k:K (bA (ku x)) H):CP S 410 [.agg (wA x)] H K:=by
 refine aj.pure ?_ (fun _=>rfl) (fun _=>rfl) k;refine ag aa rfl ?_;repeat' ((conv=>whnf);with_reducible apply af<;>intro _)
 all_goals (try conv=>whnf)
 all_goals refine fe ?_
 all_goals unfold ku
 all_goals simp_all [ByteArray.toList_eq]
theorem MZ{S:List Nat}{H:List ai}{K:AV->List ai->Prop}{x:gw}(k:K (bA (ij x)) H):CP S 415 [.agg (wA x)] H K:=by
 refine aj.pure ?_ (fun _=>rfl) (fun _=>rfl) k;obtain ⟨b,hb⟩:∃b,b=ju x.name:=⟨_,rfl⟩;have NT:∀{S:List Nat} {H:List ai} {K:AV->List ai->Prop},K (bA b) H->CP S 408 [.lit (dw x.name)] H K:=fun k=>EY (hb ▸ k);refine ag aa rfl ?_;repeat' ((conv=>whnf);first|with_reducible apply af<;>intro _|refine NT ?_|(refine (uI (l:=[(x.n:Int)]) (T:=3) (by simp)).use [1] rfl rfl ⟨⟨_,rfl,rfl⟩,tU⟩ ?_;rintro _ _ ⟨rfl,G,rfl⟩;rw[List.all_cons,List.all_nil,Bool.and_true,lW];refine ⟨[],?_⟩))
 all_goals (try conv=>whnf)
 all_goals refine fe ?_
 all_goals unfold ij
 all_goals simp_all [ByteArray.toList_eq]
theorem UT{S:List Nat}{H:List ai}{K:AV->List ai->Prop}{x:gw}(k:K (bA (Dk x)) H):CP S 479 [.agg (wA x)] H K:=by
 refine aj.pure ?_ (fun _=>rfl) (fun _=>rfl) k;obtain ⟨b,hb⟩:∃b,b=ij x:=⟨_,rfl⟩;have hr:∀{S:List Nat} {H:List ai} {K:AV->List ai->Prop},K (bA b) H->CP S 415 [.agg (wA x)] H K:=fun k=>MZ (hb ▸ k);refine ag aa rfl ?_;repeat' ((conv=>whnf);first|with_reducible apply af<;>intro _|refine hr ?_)
 all_goals (try conv=>whnf)
 all_goals refine fe ?_
 all_goals unfold Dk
 all_goals simp_all [ByteArray.toList_eq]
theorem Sj{S:List Nat}{H:List ai}{K:AV->List ai->Prop}{d:Dc}{v:Value}(k:K (bA (oo d)) H):CP S 411 [.agg (dA d v)] H K:=by
 refine aj.pure ?_ (fun _=>rfl) (fun _=>rfl) k;obtain ⟨b,hb⟩:∃b,b=ku d.label:=⟨_,rfl⟩;obtain ⟨c,hc⟩:∃c,c=ku d.wh:=⟨_,rfl⟩;have h1:∀{S:List Nat} {H:List ai} {K:AV->List ai->Prop},K (bA b) H->CP S 410 [.agg (wA d.label)] H K:=fun k=>LC (hb ▸ k);have h2:∀{S:List Nat} {H:List ai} {K:AV->List ai->Prop},K (bA c) H->CP S 410 [.agg (wA d.wh)] H K:=fun k=>LC (hc ▸ k);refine ag aa rfl ?_;repeat' ((conv=>whnf);first|with_reducible apply af<;>intro _|refine h1 ?_|refine h2 ?_)
 all_goals (try conv=>whnf)
 all_goals refine fe ?_
 all_goals unfold oo
 all_goals simp_all
 all_goals omega
theorem Si{S:List Nat}{H:List ai}{K:AV->List ai->Prop}{d:Dc}{A:Option Addr}{m:Nat}(k:K (bA (oj d)) H):CP S 413 [.agg (dA d (.slice A d.boxes.length m))] H K:=by
 refine aj.pure ?_ (fun _=>rfl) (fun _=>rfl) k;refine ag aa rfl ?_;repeat' ((conv=>whnf);with_reducible apply af<;>intro _)
 all_goals (try conv=>whnf)
 all_goals refine fe ?_
 all_goals unfold oj
 all_goals simp_all [ByteArray.toList_eq]
theorem Yi{S:List Nat}{H:List ai}{K:AV->List ai->Prop}{d:Dc}{v:Value}(k:K (bA (vT d)) H):CP S 414 [.agg (dA d v)] H K:=by
 refine aj.pure ?_ (fun _=>rfl) (fun _=>rfl) k;obtain ⟨b,hb⟩:∃b,b=ij d.role:=⟨_,rfl⟩;obtain ⟨c,hc⟩:∃c,c=ij d.label:=⟨_,rfl⟩;obtain ⟨e,he⟩:∃e,e=Dk d.wh:=⟨_,rfl⟩;obtain ⟨f,hf⟩:∃f,f=decide (d.lo<=65535/\d.hi<=65535/\d.bV<=65535):=⟨_,rfl⟩;have h1:∀{S:List Nat} {H:List ai} {K:AV->List ai->Prop},K (bA b) H->CP S 415 [.agg (wA d.role)] H K:=fun k=>MZ (hb ▸ k);have h2:∀{S:List Nat} {H:List ai} {K:AV->List ai->Prop},K (bA c) H->CP S 415 [.agg (wA d.label)] H K:=fun k=>MZ (hc ▸ k);have h3:∀{S:List Nat} {H:List ai} {K:AV->List ai->Prop},K (bA e) H->CP S 479 [.agg (wA d.wh)] H K:=fun k=>UT (he ▸ k);have hn:[(d.lo:Int),(d.hi:Int),(d.bV:Int)].all Ac=f:=by
  rw[hf,List.all_cons,List.all_cons,List.all_cons,List.all_nil,lW,lW,lW,Bool.and_true,Bool.decide_and,Bool.decide_and]
 have h4:=uI (l:=[(d.lo:Int),(d.hi:Int),(d.bV:Int)]) (T:=3) (by simp);rw[hn] at h4;refine ag aa rfl ?_;repeat' ((conv=>whnf);first|with_reducible apply af<;>intro _|refine h1 ?_|refine h2 ?_|refine h3 ?_|(refine h4.use [1] rfl rfl ⟨⟨_,rfl,rfl⟩,tU⟩ ?_;rintro _ _ ⟨rfl,G,rfl⟩;refine ⟨[],?_⟩))
 all_goals (try conv=>whnf)
 all_goals refine fe ?_
 all_goals unfold vT
 all_goals rw[<-hb,<-hc,<-he,<-hf]
 all_goals simp_all
theorem UP{R:aC}{A:Option Addr}{m:Nat}{l:List Bx}(h:sc R A l)(hl:l.length<=1000000):CP [] 412 [.lit (.slice A l.length m)] [.res R] (fun v H'=>v=bA (pv l)/\∃G,H'=.res R::G):=by
 have iE:∀b:Bx,[(b.x0:Int),(b.y0:Int),(b.x1:Int),(b.y1:Int)].all Ac=decide (b.x0<=65535/\b.y0<=65535/\b.x1<=65535/\b.y1<=65535):=fun b=>by
  rw[List.all_cons,List.all_cons,List.all_cons,List.all_cons,List.all_nil,lW,lW,lW,lW,Bool.and_true,Bool.decide_and,Bool.decide_and,Bool.decide_and]
 obtain ⟨p,hp⟩:∃p:Bx->Bool,p=fun b=>decide (b.x0<=65535/\b.y0<=65535/\b.x1<=65535/\b.y1<=65535):=⟨_,rfl⟩;have hbp:∀b:Bx,[(b.x0:Int),(b.y0:Int),(b.x1:Int),(b.y1:Int)].all Ac=p b:=fun b=>by rw[hp];exact iE b
 have hB:pv l=(l.all p&&decide (l≠[])):=by rw[hp];rfl
 rw[hB];clear iE hp hB;refine ag aa rfl ?_;conv=>whnf
 refine aV aa rfl (fun k:Nat=>[(0,.lit (.slice A l.length m)),(5,.lit (.slice A l.length m)),(6,iA l.length),(7,iA (k:Nat))]) (fun _=>[.res R]) (fun k=>k<=l.length/\l.all p=(l.drop k).all p) (fun k=>l.length - k) 0 ⟨Nat.zero_le _,rfl⟩ [0] ?_ ?_
 ·exact ⟨rfl,⟨rr,rr,rr,rr,tU⟩,⟨ko,tU⟩⟩
 ·rintro k ⟨gl,hr⟩;by_cases hk:k<l.length
  ·obtain ⟨a,rfl,bu⟩:=h.rd.at hk;rw[List.drop_eq_getElem_cons hk,List.all_cons] at hr;have hn:=uI (l:=[(l[k].x0:Int),(l[k].y0:Int),(l[k].x1:Int),(l[k].y1:Int)]) (T:=3) (by simp);rw[hbp] at hn;conv=>whnf
   refine af (fun _=>?_) (bT hk);repeat' ((conv=>whnf);first|with_reducible apply af<;>intro _|refine al.bC aa rfl rfl rfl rfl rfl hk ?_|refine al.aR (i:=0) (v:=.agg ((iy l[k]).map .lit)) rfl (fun w S hR=>bu w S hR k hk) rfl rfl ?_|(refine hn.use [2] rfl rfl ⟨⟨_,rfl,rfl⟩,tU⟩ ?_;rintro _ _ ⟨rfl,G,rfl⟩;refine ⟨[],?_⟩))
   all_goals (try conv=>whnf)
   ·rename_i hx;exact ⟨k+1,[0],⟨⟨hk,by rw[hr,hx,Bool.true_and]⟩,by omega⟩,rfl,⟨rr,rr,rr,⟨rfl,ax rfl (ak (by omega) (by omega))⟩,tU⟩,⟨ko,tU⟩⟩
   ·rename_i hx;exact ⟨bc (by rw[hr,hx];rfl),_,rfl⟩
  ·obtain rfl:k=l.length:=by omega
   rw[List.drop_length] at hr;conv=>whnf
   refine af (cF hk) (fun _=>?_);repeat' ((conv=>whnf);with_reducible apply af<;>intro _)
   all_goals (try conv=>whnf)
   all_goals refine ⟨fe ?_,_,rfl⟩
   ·rename_i hx;have hx:=dT1 hx;have aP:l≠[]:=fun e=>by rw[e] at hx;simp at hx
    rw[hr];simp[aP]
   ·rename_i hx;have hx:=dF1 hx;have aP:l=[]:=List.eq_nil_of_length_eq_zero (by omega);simp[aP]
theorem Bb{n k:Nat}:(((n:Int)==(k:Int)):Bool)=decide (n=k):=by
 rw[Bool.eq_iff_iff,beq_iff_eq,decide_eq_true_iff];omega
theorem Kf{n:Nat}:(((n:Int)==0):Bool)=decide (n=0):=Bb (k:=0)
theorem V9{n:Nat}:(((n:Int)==1):Bool)=decide (n=1):=Bb (k:=1)
theorem Wa{n:Nat}:(((n:Int)==2):Bool)=decide (n=2):=Bb (k:=2)
theorem Wb{n:Nat}:(((n:Int)==3):Bool)=decide (n=3):=Bb (k:=3)
theorem Wc{n:Nat}:(((n:Int)==4):Bool)=decide (n=4):=Bb (k:=4)
theorem Wd{n:Nat}:(((n:Int)==5):Bool)=decide (n=5):=Bb (k:=5)
theorem We{n:Nat}:(((n:Int)==6):Bool)=decide (n=6):=Bb (k:=6)
theorem N0{l:List Bx}:decide (l.length=0)=decide (l=[]):=decide_eq_decide.2 List.length_eq_zero_iff
theorem aaA{R:aC}{d:Dc}{A:Option Addr}{m:Nat}(h:sc R A d.boxes)(hl:d.boxes.length<=1000000):CP [] 310 [.agg (dA d (.slice A d.boxes.length m))] [.res R] (fun v H'=>v=bA (fV d)/\∃G,H'=.res R::G):=by
 obtain ⟨b1,iW⟩:∃b,b=ju d.name:=⟨_,rfl⟩;obtain ⟨b2,lJ⟩:∃b,b=ku d.role:=⟨_,rfl⟩;obtain ⟨b3,lU⟩:∃b,b=oo d:=⟨_,rfl⟩;obtain ⟨b4,BM⟩:∃b,b=pv d.boxes:=⟨_,rfl⟩;obtain ⟨b5,Du⟩:∃b,b=oj d:=⟨_,rfl⟩;obtain ⟨b6,Dw⟩:∃b,b=vT d:=⟨_,rfl⟩;obtain ⟨b7,NH⟩:∃b,b=ij d.role:=⟨_,rfl⟩;have k1:∀{S:List Nat} {H:List ai} {K:AV->List ai->Prop},K (bA b1) H->CP S 408 [.lit (dw d.name)] H K:=fun k=>EY (iW ▸ k);have k2:∀{S:List Nat} {H:List ai} {K:AV->List ai->Prop},K (bA b2) H->CP S 410 [.agg (wA d.role)] H K:=fun k=>LC (lJ ▸ k);have k3:∀{S:List Nat} {H:List ai} {K:AV->List ai->Prop} {v:Value},K (bA b3) H->CP S 411 [.agg (dA d v)] H K:=fun k=>Sj (lU ▸ k);have k4:=UP (m:=m) h hl;rw[<-BM] at k4;have k5:∀{S:List Nat} {H:List ai} {K:AV->List ai->Prop},K (bA b5) H->CP S 413 [.agg (dA d (.slice A d.boxes.length m))] H K:=fun k=>Si (Du ▸ k);have k6:∀{S:List Nat} {H:List ai} {K:AV->List ai->Prop} {v:Value},K (bA b6) H->CP S 414 [.agg (dA d v)] H K:=fun k=>Yi (Dw ▸ k);have k7:∀{S:List Nat} {H:List ai} {K:AV->List ai->Prop},K (bA b7) H->CP S 415 [.agg (wA d.role)] H K:=fun k=>MZ (NH ▸ k);have k8:=uI (l:=[(d.n:Int)]) (T:=3) (by simp);rw[List.all_cons,List.all_nil,Bool.and_true,lW] at k8;refine ag aa rfl ?_;refine eX.of rfl rfl ?_;refine aI.az fun F hF=>?_;repeat' ((conv=>whnf);first|with_reducible apply af<;>intro _|refine k1 ?_|refine k2 ?_|refine k3 ?_|refine k5 ?_|refine k6 ?_|refine k7 ?_|(refine k4.use [0] rfl rfl ⟨ko,tU⟩ ?_;rintro _ _ ⟨rfl,G,rfl⟩;refine ⟨[],?_⟩)|(refine k8.use [2] rfl rfl ⟨⟨_,rfl,rfl⟩,tU⟩ ?_;rintro _ _ ⟨rfl,G,rfl⟩;refine ⟨[],?_⟩)|(show F _ _ _;subst hF;refine aI.az fun F hF=>?_)|(show F _ _ _;subst hF))
 all_goals (try conv=>whnf)
 all_goals refine ⟨fe ?_,_,rfl⟩
 all_goals clear k1 k2 k3 k4 k5 k6 k7 k8
 all_goals unfold fV
 all_goals rw[<-iW,<-lJ,<-lU,<-BM,<-Du,<-Dw,<-NH]
 all_goals clear iW lJ lU BM Du Dw NH hl h
 all_goals (try clear hF F)
 all_goals simp only[V9,Wa,Wb,Wc,Wd,We,Kf,N0] at *
 all_goals simp_all
 all_goals (intro hh;omega)
structure qM(R:aC)(A:Option Addr)(m:Nat)(ds:List Dv):Prop where
 rd:cU Tryz.prog R 175 24 A (fun y=>.agg (SR y.x y.v)) ds
 bx:∀y∈ds,sc R y.A y.x.boxes
 len:ds.length<=1000000/\∀y∈ds,y.x.boxes.length<=1000000
theorem Sm{R:aC}{A:Option Addr}{m:Nat}{ds:List Dv}(h:qM R A m ds):CP [] 220 [.lit (.slice A ds.length m)] [.res R] (fun v H'=>v=bA (ds.all fun y=>fV y.x)/\∃G,H'=.res R::G):=by
 obtain ⟨p,hp⟩:∃p:Dv->Bool,p=fun y=>fV y.x:=⟨_,rfl⟩;have hpe:∀y:Dv,fV y.x=p y:=fun y=>by rw[hp]
 rw[<-hp];clear hp;have hn:=h.len.1;refine ag aa rfl ?_;conv=>whnf
 refine aV aa rfl (fun k:Nat=>[(5,.lit (.slice A ds.length m)),(6,iA ds.length),(7,iA (k:Nat))]) (fun _=>[.res R]) (fun k=>k<=ds.length/\ds.all p=(ds.drop k).all p) (fun k=>ds.length - k) 0 ⟨Nat.zero_le _,rfl⟩ [0] ?_ ?_
 ·exact ⟨rfl,⟨rr,rr,rr,tU⟩,⟨ko,tU⟩⟩
 ·rintro k ⟨gl,hr⟩;by_cases hk:k<ds.length
  ·obtain ⟨a,rfl,bu⟩:=h.rd.at hk;have iS:ds[k]∈ds:=List.getElem_mem hk;rw[List.drop_eq_getElem_cons hk,List.all_cons] at hr;have hm:=aaA (m:=ds[k].cap) (h.bx _ iS) (h.len.2 _ iS);rw[hpe] at hm;conv=>whnf
   refine af (fun _=>?_) (bT hk);repeat' ((conv=>whnf);first|with_reducible apply af<;>intro _|refine al.bC aa rfl rfl rfl rfl rfl hk ?_|refine al.aR (i:=0) (v:=.agg (dA ds[k].x ds[k].v)) rfl (fun w S hR=>bu w S hR k hk) rfl rfl ?_|(refine hm.use [0] rfl rfl ⟨ko,tU⟩ ?_;rintro _ _ ⟨rfl,G,rfl⟩;refine ⟨[],?_⟩))
   all_goals (try conv=>whnf)
   all_goals rename_i hx
   ·exact ⟨k+1,[0],⟨⟨hk,by rw[hr,hx,Bool.true_and]⟩,by omega⟩,rfl,⟨rr,rr,⟨rfl,ax rfl (ak (by omega) (by omega))⟩,tU⟩,⟨ko,tU⟩⟩
   ·exact ⟨bc (by rw[hr,hx];rfl),_,rfl⟩
  ·obtain rfl:k=ds.length:=by omega
   rw[List.drop_length] at hr;conv=>whnf
   refine af (cF hk) (fun _=>?_);repeat' ((conv=>whnf);with_reducible apply af<;>intro _)
   all_goals (try conv=>whnf)
   exact ⟨bc (by rw[hr];rfl),_,rfl⟩
def sy(pl:List (Value×List Bx))(ds:List Dv):Prop:=∀y∈ds,(y.v=aD/\y.x.boxes=[])\/((y.v,y.x.boxes)∈pl/\y.x.boxes≠[]/\∃a,y.A=some a/\a.spot=none)
theorem LO.dv{pl eY:List (Value×List Bx)}{v:Value}{x:Dc}{ds:List Dv}(h:LO pl eY v x.boxes)(hd:sy pl ds):∃y:Dv,y.x=x/\y.v=v/\sy eY (ds++[y]):=by
 rcases h with ⟨rfl,h1,rfl⟩|⟨a,k,lK,rfl,h1,rfl⟩
 ·refine ⟨⟨x,none,0⟩,rfl,by unfold Dv.v;simp only[h1];rfl,fun y hy=>?_⟩;rcases List.mem_append.1 hy with hy|hy
  ·exact hd y hy
  ·rw[List.mem_singleton.1 hy];exact .inl ⟨by unfold Dv.v;simp only[h1];rfl,h1⟩
 ·refine ⟨⟨x,some a,k⟩,rfl,rfl,fun y hy=>?_⟩;rcases List.mem_append.1 hy with hy|hy
  ·rcases hd y hy with h|h
   ·exact .inl h
   ·exact .inr ⟨List.mem_append.2 (.inl h.1),h.2⟩
  ·rw[List.mem_singleton.1 hy];exact .inr ⟨by simp[Dv.v],h1,a,rfl,lK⟩
theorem sH(y:Dv):(n9 y).length=24:=rfl
theorem Ar:iO ev 82 jd 24:=⟨⟨_,rfl,rfl⟩,_,_,rfl,rfl,rfl,rfl,by decide⟩
theorem Q3{A:Option Addr}{m:Nat}{L:List Tk}{e:Nat×Nat}:dX A m L e ⟨L,none⟩=.cells [.lit (.slice A L.length m),iA 0,iA e.1,iA e.2,iA 0,iA 0,iA 0] GL:=by
 unfold dX;simp only[Nat.sub_self];rfl
theorem Sf.decl{L:List Tk}{p:Pr}(h:Sf L p)(e:Nat×Nat):Sf L (br e p).2:=by
 unfold br;simp only[];refine Sf.want ?_ e [59];repeat' split
 ·exact h.on.named e
 ·exact h.on.named e
 ·exact h.on.region e
 ·exact h.on.EO e
 ·exact h.on.EO e
 ·exact h.on.Fz e
 ·exact (h.ba e).EO e
structure PsS where
 p:Pr
 pl:List (Value×List Bx)
 rv:Value
 ds:List Dv
def Fi(s:List UInt8)(v:AV)(H':List ai):Prop:=∃rv ds pl u,v=.tuple [.lit u,.agg (qh (parse s).2)]/\((u=rv/\ds.map Dv.x=(parse s).1)\/(u=aD/\(parse s).1=[]))/\sy pl ds/\cS rv ds/\∃G,H'=.res (aF pl)::.res (aA n9 24 jd rv ds)::G
theorem wM:∀y:Dv,∀u∈n9 y,u.oneCell'=true:=SX.one
theorem Rn{s:List UInt8}:CP [] 126 [.lit (dw s)] [.res (aF []),.res (aA n9 24 jd aD [])] (Fi s):=by
 by_cases h0:(dP s).2.err=0
 ·have hlen:s.length<=1000000:=by
   unfold dP at h0;split at h0
   ·cases h0
   ·omega
  have WZ:=Fb s;obtain ⟨r,hr⟩:∃r,r=iF ((kM s).line,(kM s).aX) ((dP s).1.length+1) ⟨(dP s).1,none⟩ []:=⟨_,rfl⟩;have tv:parse s=match r.2.bad with
    | none=>(r.1,kz.ok)
    | some b=>([],⟨31,b.1,b.2⟩):=by rw[hr];unfold parse;rw[if_neg (by simpa using h0)];rfl
  unfold Fi;rw[tv];refine ag aa rfl ?_;refine eX.of rfl rfl ?_;refine aI.az fun F hF=>?_;repeat' ((conv=>whnf);first|with_reducible apply af<;>intro _|refine aM.drawn aa rfl rfl ?_|with_reducible refine And.intro (aN.mk ⟨_,rfl,rfl⟩) ?_|(show F _ _ _;subst hF;refine aI.az fun F hF=>?_)|(show F _ _ _;subst hF)|(refine aj.pre (eg.more (R:=aA pn 5 o8 aD []) rfl (bj.gO fw _)) ?_;refine Rt.use [3] rfl rfl ⟨ko,tU⟩ ?_;rintro _ _ ⟨A,m,R,⟨hT,_⟩,rfl,G,rfl⟩;refine ⟨[],?_⟩)|refine aas hlen ?_|(exfalso;rename_i hx;simp only[bne_iff_ne,ne_eq,Int.natCast_eq_zero] at hx;exact hx h0))
  obtain ⟨e,he⟩:∃e,e=((kM s).line,(kM s).aX):=⟨_,rfl⟩;have e1:(kM s).line=e.1:=by rw[he]
  have e2:(kM s).aX=e.2:=by rw[he]
  rw[<-he] at hr;rw[e1,e2];clear e1 e2 he tv;obtain ⟨L,hL⟩:∃L,L=(dP s).1:=⟨_,rfl⟩;rw[<-hL] at hT hr WZ ⊢;clear hL;refine aV aa rfl (fun q:PsS=>[(3,.ptr 2 0),(4,.lit (.slice A L.length m)),(6,.ptr 4 0),(7,.lit q.rv)]) (fun q=>[.res (aF q.pl),.res (aA n9 24 jd q.rv q.ds),.cells [iA 0,iA 0,iA 0] 86,.res R,dX A m L e q.p])
   (fun q=>Sf L q.p/\sy q.pl q.ds/\cS q.rv q.ds/\(∃k,r=iF e k q.p (q.ds.map Dv.x)/\(q.p.bad=none->q.p.l.length<k))/\q.ds.length+(q.p.l.length+(if q.p.bad=none then 1 else 0))<=600) (fun q=>2 * q.p.l.length+(if q.p.bad=none then 1 else 0)) ⟨⟨L,none⟩,[],aD,[]⟩ ⟨⟨0,Nat.zero_le _,rfl⟩,(fun y hy=>by cases hy),.inl ⟨rfl,rfl⟩,⟨_,hr,fun _=>Nat.lt_succ_self _⟩,by show 0+(L.length+1)<=600;omega⟩ [0,1,2,3,5] ?_ ?_
  ·exact ⟨rfl,⟨rr,rr,rr,rr,tU⟩,⟨ko,ko,⟨_,rfl,rfl⟩,ko,⟨_,rfl,by (show pL _ ((dX A m L e ⟨L,none⟩).cI _);rw[Q3];rfl)⟩,tU⟩⟩
  ·rintro ⟨p,pl,rv,ds⟩ ⟨hs,ha,hv,⟨k,hk,cT⟩,jg⟩;simp only[] at hs ha hv hk cT jg;rcases hp:p with ⟨l,_|b⟩
   ·by_cases tj:l=[]
    ·subst tj;subst hp;rw[nE _ _ _ _ (.inl rfl)] at hk;subst hk;rcases hv with ⟨rfl,rfl⟩|⟨A0,c0,rfl⟩;all_goals
      conv=>whnf
      repeat' ((conv=>whnf);first|with_reducible apply af<;>intro _|refine aM.drawn aa rfl rfl ?_|with_reducible refine And.intro (aN.mk ⟨_,rfl,rfl⟩) ?_|(exfalso;rename_i hx;have:=dT1 hx;simp at this;done)|(show F _ _ _;subst hF))
      all_goals (try conv=>whnf)
     ·exact ⟨aD,[],pl,aD,rfl,.inl ⟨rfl,rfl⟩,ha,.inl ⟨rfl,rfl⟩,_,rfl⟩
     ·exact ⟨_,ds,pl,_,rfl,.inl ⟨rfl,rfl⟩,ha,.inr ⟨A0,c0,rfl⟩,_,rfl⟩
    ·subst hp;obtain ⟨k,rfl⟩:∃k',k=k'+1:=⟨k - 1,by have:=cT rfl;omega⟩;rw[zI _ _ _ _ tj rfl] at hk;have hc:=Ya (m:=m) (e:=e) (pl:=pl) hT hs;have z9:=Br e ⟨l,none⟩;have Tz:Sf L (br e ⟨l,none⟩).2:=hs.decl e;have cT:=cT rfl;have jg:ds.length+(l.length+1)<=600:=jg;obtain ⟨⟨x,q⟩,hq⟩:∃z,z=br e ⟨l,none⟩:=⟨_,rfl⟩;rw[<-hq] at hk hc z9 Tz;clear hq;simp only[] at hk hc z9 Tz cT jg;have Tq:0<l.length:=List.length_pos_iff.2 tj;have oS:l.length<=L.length:=hs.le;have z8:q.bad=none->q.l.length<k:=fun h=>by
      rcases z9 with h1|h1
      ·omega
      ·exact absurd h h1.1
     have pj:2 * q.l.length+(if q.bad=none then 1 else 0)<2 * l.length+1:=by
      rcases z9 with h1|h1
      ·split<;>omega
      ·rw[if_neg h1.1];omega
     have yu:q.l.length+(if q.bad=none then 1 else 0)<l.length+1:=by
      rcases z9 with h1|h1
      ·split<;>omega
      ·rw[if_neg h1.1];omega
     rcases hv with ⟨rfl,rfl⟩|⟨A0,c0,rfl⟩
     ·conv=>whnf
      repeat' ((conv=>whnf);first|with_reducible apply af<;>intro _|refine aM.drawn aa rfl rfl ?_|with_reducible refine And.intro (aN.mk ⟨_,rfl,rfl⟩) ?_|(exfalso;rename_i hx;have:=dF1 hx;simp at this;omega)|(refine hc.use [4,3,0] rfl rfl ⟨⟨_,rfl,rfl⟩,ko,ko,tU⟩ ?_;rintro _ _ ⟨v,eY,rfl,hb,G,rfl⟩;obtain ⟨y,rfl,rfl,yo⟩:=hb.dv ha;refine ⟨[],?_⟩)|(refine dx.om (eH.iw aa Ar sH (by decide) wM (i:=1) (y:=y) (l:=([]:List Dv)) (v:=aD) (R1:=aB) (R':=fun v'=>aA n9 24 jd v' (([]:List Dv)++[y])) rfl rfl rfl rfl rfl rfl rfl du (fun v'=>ee) (by first|omega|(simp;done)) ?_);intro A2 m2))
      all_goals (try conv=>whnf)
      exact ⟨⟨q,eY,.slice (some A2) (([]:List Dv).length+1) m2,([]:List Dv)++[y]⟩,[0,1,2,3,4],⟨⟨Tz,yo,.inr ⟨A2,m2,by simp⟩,⟨k,by rw[List.map_append];exact hk,z8⟩,by simp only[List.length_append,List.length_singleton,List.length_nil] at jg ⊢;omega⟩,pj⟩,rfl,⟨rr,rr,rr,rr,tU⟩,⟨ko,ko,⟨_,rfl,rfl⟩,ko,⟨_,rfl,rfl⟩,tU⟩⟩
     ·conv=>whnf
      repeat' ((conv=>whnf);first|with_reducible apply af<;>intro _|refine aM.drawn aa rfl rfl ?_|with_reducible refine And.intro (aN.mk ⟨_,rfl,rfl⟩) ?_|(exfalso;rename_i hx;have:=dF1 hx;simp at this;omega)|(refine hc.use [4,3,0] rfl rfl ⟨⟨_,rfl,rfl⟩,ko,ko,tU⟩ ?_;rintro _ _ ⟨v,eY,rfl,hb,G,rfl⟩;obtain ⟨y,rfl,rfl,yo⟩:=hb.dv ha;refine ⟨[],?_⟩)|(refine al.om (eH.iw aa Ar sH (by decide) wM (i:=1) (y:=y) (l:=ds) (v:=(.slice (some A0) ds.length c0)) (R1:=aB) (R':=fun v'=>aA n9 24 jd v' (ds++[y])) rfl rfl rfl rfl rfl rfl rfl du (fun v'=>ee) (by first|omega|(simp;done)) ?_);intro A2 m2))
      all_goals (try conv=>whnf)
      exact ⟨⟨q,eY,.slice (some A2) (ds.length+1) m2,ds++[y]⟩,[0,1,2,3,4],⟨⟨Tz,yo,.inr ⟨A2,m2,by simp⟩,⟨k,by rw[List.map_append];exact hk,z8⟩,by simp only[List.length_append,List.length_singleton,List.length_nil] at jg ⊢;omega⟩,pj⟩,rfl,⟨rr,rr,rr,rr,tU⟩,⟨ko,ko,⟨_,rfl,rfl⟩,ko,⟨_,rfl,rfl⟩,tU⟩⟩
   ·subst hp;rw[nE _ _ _ _ (.inr (by simp))] at hk;subst hk;rcases hv with ⟨rfl,rfl⟩|⟨A0,c0,rfl⟩;all_goals
     conv=>whnf
     repeat' ((conv=>whnf);first|with_reducible apply af<;>intro _|refine aM.drawn aa rfl rfl ?_|with_reducible refine And.intro (aN.mk ⟨_,rfl,rfl⟩) ?_|(show F _ _ _;subst hF))
     all_goals (try conv=>whnf)
    ·exact ⟨aD,[],pl,aD,rfl,.inr ⟨rfl,rfl⟩,ha,.inl ⟨rfl,rfl⟩,_,rfl⟩
    ·exact ⟨aD,[],pl,aD,rfl,.inr ⟨rfl,rfl⟩,ha,.inl ⟨rfl,rfl⟩,_,rfl⟩
    ·exact ⟨_,ds,pl,aD,rfl,.inr ⟨rfl,rfl⟩,ha,.inr ⟨A0,c0,rfl⟩,_,rfl⟩
    ·exact ⟨_,ds,pl,aD,rfl,.inr ⟨rfl,rfl⟩,ha,.inr ⟨A0,c0,rfl⟩,_,rfl⟩
 ·have tv:parse s=([],(dP s).2):=by unfold parse;rw[if_pos h0]
  unfold Fi;rw[tv];refine ag aa rfl ?_;refine eX.of rfl rfl ?_;refine aI.az fun F hF=>?_;repeat' ((conv=>whnf);first|with_reducible apply af<;>intro _|refine aM.drawn aa rfl rfl ?_|with_reducible refine And.intro (aN.mk ⟨_,rfl,rfl⟩) ?_|(show F _ _ _;subst hF;refine aI.az fun F hF=>?_)|(show F _ _ _;subst hF)|(refine aj.pre (eg.more (R:=aA pn 5 o8 aD []) rfl (bj.gO fw _)) ?_;refine Rt.use [3] rfl rfl ⟨ko,tU⟩ ?_;rintro _ _ ⟨A,m,R,⟨hT,_⟩,rfl,G,rfl⟩;refine ⟨[],?_⟩)|(exfalso;rename_i hx;simp only[bne_eq_false_iff_eq,Int.natCast_eq_zero] at hx;exact h0 hx))
  all_goals (try conv=>whnf)
  exact ⟨aD,[],[],aD,rfl,.inr ⟨rfl,rfl⟩,(fun y hy=>by cases hy),.inl ⟨rfl,rfl⟩,_,rfl⟩
theorem EA:∀(k:Nat) (l:List UInt8) (p:Pt) (out:List Tk),(jv k l p out).1.length<=out.length+k
 | 0,_,_,out=>Nat.le_refl _
 | k+1,l,p,out=>by
   unfold jv;simp only;split
   ·exact Nat.le_add_right _ _
   ·split
    ·refine Nat.le_trans (EA k _ _ _) ?_;rw[List.length_append];simp only[List.length_cons,List.length_nil];omega
    ·exact Nat.zero_le _
theorem Jg(s:List UInt8):(dP s).1.length<=513:=by
 unfold dP;split
 ·exact Nat.zero_le _
 ·have:=EA (s.length+1) s Pt.zero [];simp only[List.length_nil] at this;omega
theorem Jf(e:Nat×Nat):∀(k:Nat) (p:Pr) (out:List Bx),(fT e k p out).1.length<=out.length+k
 | 0,_,out=>Nat.le_refl _
 | k+1,p,out=>by
   unfold fT;split
   ·refine Nat.le_trans (Jf e k _ _) ?_;rw[List.length_append];simp only[List.length_cons,List.length_nil];omega
   ·exact Nat.le_add_right _ _
theorem Oh(e:Nat×Nat)(p:Pr):(bF e p).1.length<=p.l.length+1:=by
 have:=Jf e p.l.length (hZ e p).2 [(hZ e p).1];simp only[List.length_cons,List.length_nil] at this;unfold bF;omega
theorem Jj(e:Nat×Nat)(d:Dc)(p:Pr):(eT e d p).1.boxes.length<=p.l.length+1:=by
 unfold eT;exact Nat.le_trans (Oh e _) (Nat.add_le_add_right (Nat.le_trans (gX e _ _) (tG e p)) 1)
theorem zO(e:Nat×Nat)(d:Dc)(p:Pr):(dJ e d p).1.boxes=d.boxes:=rfl
theorem HU(e:Nat×Nat)(p:Pr):(br e p).1.boxes.length<=p.l.length+1:=by
 have ho:=tI p;unfold br;simp only;repeat' split
 all_goals first
  | exact Nat.zero_le _
  | (refine Nat.le_trans (Jj e _ _) ?_;omega)
theorem Hi(e:Nat×Nat):∀(k:Nat) (p:Pr) (out:List Dc),(iF e k p out).1.length<=out.length+k
 | 0,_,out=>Nat.le_refl _
 | k+1,p,out=>by
   unfold iF;split
   ·exact Nat.le_add_right _ _
   ·refine Nat.le_trans (Hi e k _ _) ?_;rw[List.length_append];simp only[List.length_cons,List.length_nil];omega
theorem Pu(e:Nat×Nat)(p:Pr):(br e p).2.l.length<=p.l.length:=by
 rcases Br e p with h|h
 ·omega
 ·exact h.2
theorem AX(e:Nat×Nat)(n:Nat):∀(k:Nat) (p:Pr) (out:List Dc),p.l.length<=n->(∀d∈out,d.boxes.length<=n+1)->∀d∈(iF e k p out).1,d.boxes.length<=n+1
 | 0,_,out,_,h=>h
 | k+1,p,out,hp,h=>by
   unfold iF;split
   ·exact h
   ·refine AX e n k _ _ (Nat.le_trans (Pu e p) hp) fun d hd=>?_;rcases List.mem_append.1 hd with h1|h1
    ·exact h d h1
    ·rw[List.mem_singleton.1 h1];have:=HU e p;omega
theorem Co(s:List UInt8):(parse s).1.length<=514:=by
 unfold parse;split
 ·exact Nat.zero_le _
 ·simp only;split
  ·refine Nat.le_trans (Hi _ _ _ _) ?_;have:=Jg s;simp only[List.length_nil];omega
  ·exact Nat.zero_le _
theorem xy(s:List UInt8):∀d∈(parse s).1,d.boxes.length<=514:=by
 unfold parse;split
 ·intro d hd;simp at hd
 ·simp only;split
  ·exact AX _ 513 _ _ _ (Jg s) (fun d hd=>by simp at hd)
  ·intro d hd;simp at hd
theorem o1(w:World):(aF []).at_ w fun _=>False:=fun _ h=>h
def vk(rv:Value)(ds:List Dv)(pl:List (Value×List Bx)):aC:=aC.star [aF pl,aA n9 24 jd rv ds]
theorem uo{rv:Value}{ds:List Dv}{pl:List (Value×List Bx)}{w:World}{S:Nat->Prop}(h:(vk rv ds pl).at_ w S):(∃S1,(aF pl).at_ w S1)/\∃S2,(aA n9 24 jd rv ds).at_ w S2:=by
 obtain ⟨S1,_,h1,_⟩:=db (i:=0) h rfl;obtain ⟨S2,_,h2,_⟩:=db (i:=1) h rfl;exact ⟨⟨S1,h1⟩,S2,h2⟩
theorem D8{rv:Value}{ds:List Dv}{pl:List (Value×List Bx)}(w:World)(S1 S2:Nat->Prop)(h1:(aF pl).at_ w S1)(h2:(aA n9 24 jd rv ds).at_ w S2)(hd:∀b,S1 b->S2 b->False):(vk rv ds pl).at_ w (fun b=>S1 b\/S2 b):=
 ⟨S1,S2,h1,⟨S2,fun _=>False,h2,fun _ h=>h,fun _ _ h=>h,fun b=>by simp⟩,hd,fun b=>Iff.rfl⟩
theorem D7{A:Addr}{m:Nat}{ds:List Dv}{pl:List (Value×List Bx)}(ha:sy pl ds)(hl:ds.length<=1000000/\∀y∈ds,y.x.boxes.length<=1000000):qM (vk (.slice (some A) ds.length m) ds pl) (some A) m ds where
 rd:=fun aP=>by
  by_cases hw:∃w S,(vk (.slice (some A) ds.length m) ds pl).at_ w S
  ·obtain ⟨w0,S0,h0⟩:=hw;obtain ⟨_,S2,h2⟩:=uo h0;obtain ⟨b,off,e,_,_⟩:=jj h2.1 aP;cases e
   refine cU.lay aa (enc:=n9) sH SW (fun _=>⟨b,off,rfl,fun w S h=>?_⟩) aP;obtain ⟨_,S3,h3⟩:=uo h;obtain ⟨b',I6,e,_,mo⟩:=jj h3.1 aP;cases e
   exact mo
  ·exact ⟨A,rfl,fun w S h=>absurd ⟨w,S,h⟩ hw⟩
 bx:=fun y hy=>by
  rcases ha y hy with ⟨_,h⟩|⟨h1,h2,a,h3,h4⟩
  ·rw[h];exact ⟨fun h=>absurd rfl h,fun h=>absurd rfl h⟩
  ·have key:∀w S,(vk (.slice (some A) ds.length m) ds pl).at_ w S->ir w a.block a.off (y.x.boxes.flatMap iy):=fun w S h=>by
    obtain ⟨⟨S1,k1⟩,_⟩:=uo h;obtain ⟨oa,c,e,k2⟩:=Cv h1 w S1 k1;obtain ⟨b,off,rfl,k3⟩:=k2 h2;unfold Dv.v at e;simp only[h3,Value.slice.injEq,Option.some.injEq] at e;rw[e.1];exact k3
   have ea:y.A=some ⟨a.block,a.off,none⟩:=by rw[h3,<-h4]
   exact ⟨cU.lay aa (fun _=>rfl) LZ fun _=>⟨_,_,ea,key⟩,fun _ w S h=>⟨_,_,ea,key w S h⟩⟩
 len:=hl
def SF(s:List UInt8)(v:AV)(H':List ai):Prop:=∃A m ds R,ds.map Dv.x=(parse s).1/\qM R A m ds/\v=.tuple [.lit (.slice A ds.length m),.agg (qh (parse s).2)]/\∃G,H'=.res R::G
theorem L6{R:aC}:qM R none 0 []:=⟨fun h=>absurd rfl h,fun y hy=>(by cases hy),by decide,fun y hy=>(by cases hy)⟩
theorem Ro{s:List UInt8}:CP [] 126 [.lit (dw s)] [] (SF s):=by
 refine aj.post (aj.pre (eg.more (R:=aF []) rfl (bj.gO o1 _)) (aj.pre (eg.more (R:=aA n9 24 jd aD []) rfl (bj.gO fw _)) Rn)) ?_;rintro _ _ ⟨rv,ds,pl,u,rfl,hu,ha,hv,G,rfl⟩;rcases hu with ⟨rfl,hp⟩|⟨rfl,hp⟩
 ·have hlen:ds.length<=1000000/\∀y∈ds,y.x.boxes.length<=1000000:=by
   refine ⟨?_,fun y hy=>?_⟩
   ·have h:=Co s;rw[<-hp,List.length_map] at h;omega
   ·have h:=xy s y.x (by rw[<-hp];exact List.mem_map_of_mem hy);omega
  refine ⟨.res (vk u ds pl)::.res aB::G,eg.same rfl ((bj.merge (i:=0) (j:=1) rfl rfl rfl D8).trans (.of_eq rfl)),?_⟩;rcases hv with ⟨rfl,rfl⟩|⟨A,m,rfl⟩
  ·exact ⟨none,0,[],_,hp,L6,rfl,_,rfl⟩
  ·exact ⟨some A,m,ds,_,hp,D7 ha hlen,rfl,_,rfl⟩
 ·exact ⟨_,eg.same rfl (.refl _),none,0,[],aF pl,by rw[hp];rfl,L6,rfl,_,rfl⟩
theorem Hu{d:Dc}{r:List Dc}{c:Ck}:kE (d::r) c=if (ep d c).fault.err=0 then kE r (ep d c) else ep d c:=rfl
structure YC where
 k:Nat
 c:Ck
 gs:List mg
 pl:List (Value×List Bx)
 rv:Value
 rs:List dc
def YT(R:aC)(s:YC):List ai:=[.res R,.cells [iA 0,iA 0,iA 0] 86,.map [(iA 1,.map 3,0),(iA 2,.map 4,1)] 2,.bE (mE dw DI s.c.kJ),.bE (mE dw DI s.c.labels),.bE (mE dw id (s.gs.map fun g=>(g.n,g.v))),.cells [.map 2,.map 5,.lit s.rv,iA s.c.boxes,iA s.c.fault.err,iA s.c.fault.line,iA s.c.fault.aX] tCk,.res (aF s.pl),.res (aA fg 7 gu s.rv s.rs)]
def OQ(R:aC)(q:List Rl×kz)(v:AV)(H':List ai):Prop:=
 (∃rv rs pl G1 G2 G3 G4 G5 G6 G,q=(rs.map dc.x,kz.ok)/\(∀y∈rs,u7 pl y)/\((rv=aD/\rs=[])\/∃A m,rv=.slice (some A) rs.length m)/\v=.tuple [.lit rv,.agg [iA 0,iA 0,iA 0]]/\rs.length<=32/\H'=[.res R,G1,G2,G3,G4,G5,G6,.res (aF pl),.res (aA fg 7 gu rv rs)]++G) \/
 (∃f G,q=([],f)/\f.err≠0/\v=.tuple [.lit aD,.agg (qh f)]/\H'=.res R::G)
theorem Mw(w:World):(aA fg 7 gu aD []).at_ w fun _=>False:=⟨Own.nil,fun b=>by simp[aD,Value.ownBlock]⟩
theorem Ul{R:aC}{A:Option Addr}{m:Nat}{ds:List Dv}(h:qM R A m ds):CP [] 127 [.lit (.slice A ds.length m)] [.res R] (OQ R (check (ds.map Dv.x))):=by
 refine ag aa rfl ?_;repeat' ((conv=>whnf);first|with_reducible apply af<;>intro _|refine aM.drawn aa rfl rfl ?_|with_reducible refine And.intro (aN.mk ⟨_,rfl,rfl⟩) ?_|(refine (Sm h).use [0] rfl rfl ⟨ko,tU⟩ ?_;rintro _ _ ⟨rfl,G0,rfl⟩;refine ⟨[],?_⟩)|refine al.QI (.inr rfl) rfl rfl rfl rfl rfl rfl rfl rfl rfl ?_)
 all_goals (try conv=>whnf)
 ·rename_i hr;have ZQ:∀y∈ds,fV y.x=true:=List.all_eq_true.1 hr;have lk:check (ds.map Dv.x)=if (kE (ds.map Dv.x) Ck.zero).fault.err=0 then ((kE (ds.map Dv.x) Ck.zero).rules,kz.ok) else ([],(kE (ds.map Dv.x) Ck.zero).fault):=by
   unfold check;rw[if_neg];simp only[List.all_map,Function.comp_def,hr,Bool.not_true,Bool.false_eq_true,not_false_eq_true]
  refine aM.wk (.same (.same (.same (.map (fs:=[]) rfl rfl (by simp) (.map (fs:=[]) rfl rfl (by simp) (.map (fs:=[]) rfl rfl (by simp) (.same .nil))))))) ?_;refine aM.pre (eg.more (R:=aF []) rfl (bj.gO o1 _)) ?_;refine aM.pre (eg.more (R:=aA fg 7 gu aD []) rfl (bj.gO Mw _)) ?_;refine aV aa rfl (fun s:YC=>[(3,.ptr 1 0),(4,.ptr 6 0),(18,.lit (.slice A ds.length m)),(19,iA ds.length),(20,iA (s.k:Nat))]) (YT R)
   (fun s=>s.k<=ds.length/\Dn s.c s.gs s.pl s.rv s.rs/\s.c.rules.length<=32/\s.c.boxes<=32/\s.c.fault.err=0/\kE (ds.map Dv.x) Ck.zero=kE ((ds.drop s.k).map Dv.x) s.c) (fun s=>ds.length - s.k) ⟨0,Ck.zero,[],[],aD,[]⟩ ⟨Nat.zero_le _,⟨⟨rfl,fun g hg=>by simp at hg⟩,rfl,fun y hy=>by simp at hy,.inl ⟨rfl,rfl⟩⟩,by decide,by decide,rfl,rfl⟩ [0,1,2,3,4,5,6,7,8] ?_ ?_
  ·exact ⟨rfl,⟨rr,rr,rr,rr,rr,tU⟩,⟨ko,⟨_,rfl,rfl⟩,⟨_,rfl,rfl⟩,⟨_,rfl,rfl⟩,⟨_,rfl,rfl⟩,⟨_,rfl,rfl⟩,⟨_,rfl,rfl⟩,ko,ko,tU⟩⟩
  ·rintro ⟨k,c,gs,pl,rv,rs⟩ ⟨gl,hi,lI,hb,hf,kn⟩;simp only[] at gl hi lI hb hf kn;by_cases hk:k<ds.length
   ·obtain ⟨a,rfl,bu⟩:=h.rd.at hk;have iS:ds[k]∈ds:=List.getElem_mem hk;rw[List.drop_eq_getElem_cons hk,List.map_cons,Hu] at kn;conv=>whnf
    refine af (fun _=>?_) (bT hk);repeat' ((conv=>whnf);first|with_reducible apply af<;>intro _|refine aM.drawn aa rfl rfl ?_|with_reducible refine And.intro (aN.mk ⟨_,rfl,rfl⟩) ?_|refine al.bC aa rfl rfl rfl rfl rfl hk ?_|refine al.aR (i:=0) (v:=.agg (dA ds[k].x ds[k].v)) rfl (fun w S hR=>bu w S hR k hk) rfl rfl ?_|(refine (SN (m:=ds[k].cap) hi lI hb (ZQ _ iS) (h.bx _ iS) (h.len.2 _ iS)).use [6,2,3,4,5,7,8,0] rfl rfl ⟨⟨_,rfl,rfl⟩,⟨_,rfl,rfl⟩,⟨_,rfl,rfl⟩,⟨_,rfl,rfl⟩,⟨_,rfl,rfl⟩,ko,ko,ko,tU⟩ ?_;rintro _ _ ⟨rfl,FG,eY,Ah,Af,kU,G,rfl⟩;refine ⟨[],?_⟩))
    all_goals (try conv=>whnf)
    all_goals
     rename_i hx
     simp only[bne_iff_ne,ne_eq,bne_eq_false_iff_eq,Int.natCast_eq_zero] at hx
    ·have e:check (ds.map Dv.x)=([],(ep ds[k].x c).fault):=by
      rw[lk,kn,if_neg hx,if_neg hx]
     rw[e];exact .inr ⟨_,_,rfl,hx,rfl,rfl⟩
    ·rw[if_pos hx] at kn;obtain ⟨h1,h2⟩:=Ki lI hb hx;exact ⟨⟨k+1,ep ds[k].x c,FG,eY,Ah,Af⟩,[0,1,2,3,4,5,6,7,8],⟨⟨hk,kU,h1,h2,hx,kn⟩,by show ds.length - (k+1)<ds.length - k;omega⟩,rfl,⟨rr,rr,rr,rr,⟨rfl,ax rfl (ak (by have:=h.len.1;dsimp only;omega) (by have:=h.len.1;dsimp only;omega))⟩,tU⟩,⟨ko,⟨_,rfl,rfl⟩,⟨_,rfl,rfl⟩,⟨_,rfl,rfl⟩,⟨_,rfl,rfl⟩,⟨_,rfl,rfl⟩,⟨_,rfl,rfl⟩,ko,ko,tU⟩⟩
   ·obtain rfl:k=ds.length:=by omega
    rw[List.drop_length] at kn;have e:check (ds.map Dv.x)=(rs.map dc.x,kz.ok):=by
     rw[lk,kn];show (if c.fault.err=0 then (c.rules,kz.ok) else _)=_
     rw[if_pos hf,hi.r]
    have cK:rs.length<=32:=by rw[hi.r,List.length_map] at lI;exact lI
    have ZH:=hi.b;rw[e];rcases hi.v with ⟨rfl,rfl⟩|⟨A3,m3,rfl⟩
    ·conv=>whnf
     refine af (cF hk) (fun _=>?_);repeat' ((conv=>whnf);first|with_reducible apply af<;>intro _|refine aM.drawn aa rfl rfl ?_|with_reducible refine And.intro (aN.mk ⟨_,rfl,rfl⟩) ?_ )
     all_goals (try conv=>whnf)
     exact .inl ⟨aD,[],pl,_,_,_,_,_,_,_,rfl,ZH,.inl ⟨rfl,rfl⟩,rfl,cK,rfl⟩
    ·conv=>whnf
     refine af (cF hk) (fun _=>?_);repeat' ((conv=>whnf);first|with_reducible apply af<;>intro _|refine aM.drawn aa rfl rfl ?_|with_reducible refine And.intro (aN.mk ⟨_,rfl,rfl⟩) ?_ )
     all_goals (try conv=>whnf)
     exact .inl ⟨_,rs,pl,_,_,_,_,_,_,_,rfl,ZH,.inr ⟨A3,m3,rfl⟩,rfl,cK,rfl⟩
 ·rename_i hr;have lk:check (ds.map Dv.x)=([],⟨1,0,0⟩):=by
   unfold check;rw[if_pos];simp only[List.all_map,Function.comp_def,hr,Bool.not_false]
  rw[lk];exact .inr ⟨⟨1,0,0⟩,_,rfl,by decide,rfl,rfl⟩
def Nf(q:List Rl×kz)(v:AV)(H':List ai):Prop:=
 (∃rv rs pl,q=(rs.map dc.x,kz.ok)/\(∀y∈rs,u7 pl y)/\((rv=aD/\rs=[])\/∃A m,rv=.slice (some A) rs.length m)/\v=.tuple [.lit rv,.agg [iA 0,iA 0,iA 0]]/\rs.length<=32/\∃G1 G2 G3 G,H'=[G1,G2,G3,.res (aF pl),.res (aA fg 7 gu rv rs)]++G) \/
 (∃f,q=([],f)/\f.err≠0/\v=.tuple [.lit aD,.agg (qh f)])
theorem Yd{s:List UInt8}:CP [] 49 [.lit (dw s)] [] (Nf (hU s)):=by
 refine ag aa rfl ?_;repeat' ((conv=>whnf);first|with_reducible apply af<;>intro _|refine aM.drawn aa rfl rfl ?_|with_reducible refine And.intro (aN.mk ⟨_,rfl,rfl⟩) ?_|(refine (Ro (s:=s)).use [] rfl rfl trivial ?_;rintro _ _ ⟨A,m,ds,R,h1,h2,rfl,G,rfl⟩;refine ⟨[0],?_⟩)|(refine (Ul h2).use [1] rfl rfl ⟨ko,tU⟩ ?_;rintro _ _ (⟨_,rs,pl,G1,G2,G3,G4,G5,G6,G,hq,hb,(⟨rfl,rfl⟩|⟨A3,m3,rfl⟩),rfl,hl,rfl⟩|⟨f,G,hq,hf,rfl,rfl⟩);refine ⟨[7,8],?_⟩;rotate_left;refine ⟨[7,8],?_⟩;rotate_left;refine ⟨[],?_⟩;rotate_left))
 all_goals (try conv=>whnf)
 ·rename_i hx;simp only[bne_iff_ne,ne_eq,Int.natCast_eq_zero] at hx;have e:hU s=([],(parse s).2):=by unfold hU;rw[if_neg hx]
  exact .inr ⟨_,e,hx,rfl⟩
 all_goals
  have e:hU s=check (ds.map Dv.x):=by
   have hx:(((parse s).2.err:Int) != 0)=false:=by assumption
   simp only[bne_eq_false_iff_eq,Int.natCast_eq_zero] at hx;unfold hU;rw[if_pos hx,h1]
  rw[hq] at e
 ·exact .inl ⟨_,_,pl,e,hb,.inl ⟨rfl,rfl⟩,rfl,hl,_,_,_,_,rfl⟩
 ·exact .inl ⟨_,rs,pl,e,hb,.inr ⟨A3,m3,rfl⟩,rfl,hl,_,_,_,_,rfl⟩
 ·exact .inr ⟨f,e,hf,rfl⟩
