/- Part of the proof: Rf28. Conditions: as each states. -/
import Derived.Test.YtmbdghclhpboaaaGreatPq38
set_option linter.all false
set_option maxRecDepth 100000
namespace Go.Proofs.YtmbdghclhpboaaaGreat
open Ev Go.RowKit
def Nb(l:List UInt8)(v:AV)(H':List ai):Prop:=∃A n d,d=l/\v=.lit (.slice (some A) d.length n)/\∃G,H'=.res (aA cB 1 da (.slice (some A) d.length n) d)::G
theorem RD{k n:Nat}{H:List ai}{K:AV->List ai->Prop}(h1:1<=k)(h2:k<=8)(hn:n<18446744073709551616)(hk:n<256 ^ k)(fy:Nat.blt H.length aY=true)
  (kk:∀a m R,cU Tryz.prog R da 1 (some a) uM (cG k n)->K (.tuple [.lit (.slice (some a) (cG k n).length m),bA true]) (H++[.res R])):CP [] 101 [uA n,iA k] H K:=by
 have hl:(cG k n).length=k:=bR k n;have aP:cG k n≠[]:=fun e=>by rw[e] at hl;simp at hl;omega
 obtain ⟨j,rfl⟩:∃j,k=j+1:=⟨k - 1,by omega⟩;refine aj.I5 aa rfl (ι:=Addr×Nat) (fun i=>.tuple [.lit (.slice (some i.1) (cG (j+1) n).length i.2),bA true]) (fun i base w'=>Own cB 1 da w' base (.slice (some i.1) (cG (j+1) n).length i.2) (cG (j+1) n)) rfl fy ?_ ?_
 ·intro w;refine (Js j n w h2 hn).mono ?_;rintro e w' ⟨v,rfl,ho,hb⟩;rw[decide_eq_true hk];obtain ⟨A,cap,rfl⟩:=ho.form;obtain ⟨b,off,rfl,_,_⟩:=jj ho aP;exact ⟨(_,cap),_,rfl,rfl,ho,hb⟩
 ·rintro ⟨a,m⟩ base w' _ ho;obtain ⟨b0,QW,e0,_⟩:=jj ho aP;refine kk a m _ (cU.cells aa Bf fun _=>⟨b0,QW,e0,fun w S hw=>?_⟩);obtain ⟨b,off,h3,_,h4⟩:=jj (EZ ho hw) aP;rw[h3] at e0;simp only[Option.some.injEq,Addr.mk.injEq] at e0;obtain ⟨rfl,rfl,_⟩:=e0;rw[<-Fu];exact h4
structure Hb where
 i:Nat
 v:Value
theorem pF{A:Addr}{c k n:Nat}{l:List UInt8}(aP:l≠[])(h1:1<=k)(h2:k<=8)(hn:n<18446744073709551616)(hk:n<256 ^ k)(hl:l.length<=900000000):CP [] 36 [.lit (.slice (some A) l.length c),uA n,iA k] [.res (aA cB 1 da (.slice (some A) l.length c) l)] (Nb (l++cG k n)):=by
 have BN:(cG k n).length=k:=bR k n;refine ag aa rfl ?_;repeat' ((conv=>whnf);first|with_reducible apply af<;>intro _|(refine RD h1 h2 hn hk rfl fun a m R hR=>?_))
 obtain ⟨b,hb⟩:∃b,b=cG k n:=⟨_,rfl⟩;rw[<-hb] at hR BN ⊢;refine aV aa rfl (fun s:Hb=>[(0,.lit s.v),(7,.lit (.slice (some a) b.length m)),(9,iA (s.i:Nat))]) (fun s=>[.res (aA cB 1 da s.v (l++b.take s.i)),.res R]) (fun s=>s.i<=b.length/\cS s.v (l++b.take s.i)) (fun s=>b.length - s.i) ⟨0,.slice (some A) l.length c⟩ ⟨Nat.zero_le _,.inr ⟨A,c,by simp⟩⟩ [0,1] ⟨rfl,⟨rr,rr,rr,tU⟩,⟨⟨_,rfl,by simp only[List.take_zero,List.append_nil];exact kp⟩,ko,tU⟩⟩ ?_;rintro ⟨i,v⟩ ⟨hi,hv⟩;simp only[] at hi hv;obtain ⟨A1,c1,rfl⟩:=mc hv (by simp[aP]);have oS:(l++b.take i).length<=2147483600:=by rw[List.length_append,List.length_take];omega
 by_cases an:i<b.length
 ·have e:l++b.take (i+1)=l++b.take i++[b[i]]:=by rw[bq an,List.append_assoc]
  obtain ⟨a,bu⟩:∃hh:True,lg Tryz.prog R da 1 a uM b:=⟨tU,by obtain ⟨a',e,h⟩:=hR.at an;cases e;exact h⟩;obtain ⟨d,hd⟩:∃d,d=l++b.take i:=⟨_,rfl⟩;simp only[<-hd] at oS e ⊢;have k3:=fun w S hw=>bu w S hw i an;repeat' ((conv=>whnf);first|with_reducible apply af<;>intro _|(exfalso;exact bT an (by assumption))|refine al.bC aa rfl rfl rfl rfl rfl an ?_|refine al.aR (i:=1) (v:=.lit (uM b[i])) rfl k3 rfl rfl ?_|(refine al.om (eH.iw aa ue fE (by decide) uk (i:=0) (y:=b[i]) (l:=d) (v:=.slice (some A1) d.length c1) (R1:=aB) (R':=fun v'=>aA cB 1 da v' (d++[b[i]])) rfl rfl rfl rfl rfl rfl rfl mZ (fun v'=>pd) (by omega) ?_);intro A2 m2)|refine ag aa rfl ?_)
  all_goals (try conv=>whnf)
  exact ⟨⟨i+1,.slice (some A2) (d.length+1) m2⟩,[0,1],⟨⟨an,.inr ⟨A2,m2,by rw[e,List.length_append];rfl⟩⟩,Nat.sub_lt_sub_left an (Nat.lt_succ_self _)⟩,rfl,⟨rr,rr,⟨rfl,ax rfl (ak (by first|omega|(simp only[];omega)) (by first|omega|(simp only[];omega)))⟩,tU⟩,⟨⟨_,rfl,by simp only[e];exact kp⟩,ko,tU⟩⟩
 ·obtain rfl:i=b.length:=by omega
  have e:l++b.take b.length=l++b:=by rw[List.take_length]
  simp only[e] at hv ⊢;repeat' ((conv=>whnf);first|with_reducible apply af<;>intro _|(exfalso;exact cF an (by assumption))|refine ag aa rfl ?_)
  all_goals (try conv=>whnf)
  exact ⟨A1,c1,_,rfl,rfl,_,rfl⟩
structure PuE where
 i:Nat
 v:Value
 u:AV
theorem RI{e0:TypeId}{k n:Nat}(h1:1<=k)(h2:k<=8)(hn:n<18446744073709551616)(hk:n<256 ^ k):CP [] 36 [.slice 0 0 0 (.k 0),uA n,iA k] [.row [] e0,.res (aA cB 1 da aD [])] (fun v H'=>∃A m d,d=cG k n/\v=.lit (.slice (some A) d.length m)/\∃G,H'=.row [] e0::.res (aA cB 1 da (.slice (some A) d.length m) d)::G):=by
 have BN:(cG k n).length=k:=bR k n;refine ag aa rfl ?_;repeat' ((conv=>whnf);first|with_reducible apply af<;>intro _|(refine RD h1 h2 hn hk rfl fun a m R hR=>?_))
 obtain ⟨b,hb⟩:∃b,b=cG k n:=⟨_,rfl⟩;rw[<-hb] at hR BN ⊢;refine aV aa rfl (fun s:PuE=>[(0,s.u),(7,.lit (.slice (some a) b.length m)),(9,iA (s.i:Nat))]) (fun s=>[.row [] e0,.res (aA cB 1 da s.v (b.take s.i)),.res R]) (fun s=>s.i<=b.length/\((s.i=0/\s.u=.slice 0 0 0 (.k 0)/\s.v=aD)\/(0<s.i/\∃A c,s.v=.slice (some A) (b.take s.i).length c/\s.u=.lit (.slice (some A) (b.take s.i).length c)))) (fun s=>b.length - s.i) ⟨0,aD,.slice 0 0 0 (.k 0)⟩ ⟨Nat.zero_le _,.inl ⟨rfl,rfl,rfl⟩⟩ [0,1,2] ⟨rfl,⟨rr,rr,rr,tU⟩,⟨⟨_,rfl,rfl⟩,ko,ko,tU⟩⟩ ?_;rintro ⟨i,v,u⟩ ⟨hi,hv⟩;simp only[] at hi hv;have oS:(b.take i).length<=2147483600:=by rw[List.length_take];omega
 by_cases an:i<b.length
 ·have e:b.take (i+1)=b.take i++[b[i]]:=bq an;obtain ⟨a,bu⟩:∃hh:True,lg Tryz.prog R da 1 a uM b:=⟨tU,by obtain ⟨a',e,h⟩:=hR.at an;cases e;exact h⟩;have k3:=fun w S hw=>bu w S hw i an;rcases hv with ⟨rfl,rfl,rfl⟩|⟨h0,A1,c1,rfl,rfl⟩
  ·have e:b.take (0+1)=[b[0]]:=e;simp only[List.take_zero];repeat' ((conv=>whnf);first|with_reducible apply af<;>intro _|(exfalso;exact bT an (by assumption))|refine al.bC aa rfl rfl rfl rfl rfl an ?_|refine al.aR (i:=2) (v:=.lit (uM b[0])) rfl k3 rfl rfl ?_|(refine al.om (eH.O8 aa ue fE (by decide) uk (i:=1) (y:=b[0]) (R1:=aB) (R':=fun v'=>aA cB 1 da v' [b[0]]) rfl rfl rfl rfl rfl rfl rfl mZ (fun v'=>pd) ?_);intro A2 m2)|(refine dx.om (eH.O8 aa ue fE (by decide) uk (i:=1) (y:=b[0]) (R1:=aB) (R':=fun v'=>aA cB 1 da v' [b[0]]) rfl rfl rfl rfl rfl rfl rfl mZ (fun v'=>pd) ?_);intro A2 m2)|refine ag aa rfl ?_)
   all_goals (try conv=>whnf)
   exact ⟨⟨0+1,.slice (some A2) 1 m2,.lit (.slice (some A2) 1 m2)⟩,[0,1,2],⟨⟨an,.inr ⟨Nat.zero_lt_one,A2,m2,by rw[e];rfl,by rw[e];rfl⟩⟩,Nat.sub_lt_sub_left an (Nat.lt_succ_self _)⟩,rfl,⟨rr,rr,⟨rfl,ax rfl (ak (by first|omega|(simp only[];omega)) (by first|omega|(simp only[];omega)))⟩,tU⟩,⟨⟨_,rfl,rfl⟩,⟨_,rfl,by simp only[e];exact kp⟩,ko,tU⟩⟩
  ·obtain ⟨d,hd⟩:∃d,d=b.take i:=⟨_,rfl⟩;simp only[<-hd] at oS e ⊢;repeat' ((conv=>whnf);first|with_reducible apply af<;>intro _|(exfalso;exact bT an (by assumption))|refine al.bC aa rfl rfl rfl rfl rfl an ?_|refine al.aR (i:=2) (v:=.lit (uM b[i])) rfl k3 rfl rfl ?_|(refine al.om (eH.iw aa ue fE (by decide) uk (i:=1) (y:=b[i]) (l:=d) (v:=.slice (some A1) d.length c1) (R1:=aB) (R':=fun v'=>aA cB 1 da v' (d++[b[i]])) rfl rfl rfl rfl rfl rfl rfl mZ (fun v'=>pd) (by omega) ?_);intro A2 m2)|refine ag aa rfl ?_)
   all_goals (try conv=>whnf)
   exact ⟨⟨i+1,.slice (some A2) (d.length+1) m2,.lit (.slice (some A2) (d.length+1) m2)⟩,[0,1,2],⟨⟨an,.inr ⟨Nat.succ_pos _,A2,m2,by rw[e,List.length_append];rfl,by rw[e,List.length_append];rfl⟩⟩,Nat.sub_lt_sub_left an (Nat.lt_succ_self _)⟩,rfl,⟨rr,rr,⟨rfl,ax rfl (ak (by first|omega|(simp only[];omega)) (by first|omega|(simp only[];omega)))⟩,tU⟩,⟨⟨_,rfl,rfl⟩,⟨_,rfl,by simp only[e];exact kp⟩,ko,tU⟩⟩
 ·obtain rfl:i=b.length:=by omega
  have e:b.take b.length=b:=List.take_length;rcases hv with ⟨h0,_⟩|⟨h0,A1,c1,rfl,rfl⟩
  ·exact absurd h0 (by omega)
  simp only[e];repeat' ((conv=>whnf);first|with_reducible apply af<;>intro _|(exfalso;exact cF an (by assumption))|refine ag aa rfl ?_)
  all_goals (try conv=>whnf)
  exact ⟨A1,c1,_,rfl,rfl,_,rfl⟩
theorem Uv{A:Addr}{c:Nat}{x0 y0 x1 y1:Int}{l:List UInt8}(aP:l≠[])(h:∀x∈[x0,y0,x1,y1],bw 2 x)(hl:l.length<=850000000):CP [] 37 [.lit (.slice (some A) l.length c),.agg [iA x0,iA y0,iA x1,iA y1]] [.res (aA cB 1 da (.slice (some A) l.length c) l)] (Nb (l++[x0,y0,x1,y1].flatMap (bs 2))):=by
 obtain ⟨xs,gV⟩:∃xs,xs=[x0,y0,x1,y1]:=⟨_,rfl⟩;have hx4:xs.length=4:=by rw[gV];rfl
 have hB:∀i,(l++(xs.take i).flatMap (bs 2)).length<=900000000:=fun i=>by
  have:((xs.take i).flatMap (bs 2)).length=(xs.take i).length * 2:=fU (fun x:Int=>bR 2 x.toNat) _;rw[List.length_append,this,List.length_take];omega
 refine ag aa rfl ?_;conv=>whnf
 refine aV aa rfl (fun s:Hb=>[(0,.lit s.v),(5,.slice 1 0 4 (.k 4)),(6,iA (s.i:Nat))]) (fun s=>[.res (aA cB 1 da s.v (l++(xs.take s.i).flatMap (bs 2))),.row (xs.map iK) 3]) (fun s=>s.i<=xs.length/\cS s.v (l++(xs.take s.i).flatMap (bs 2))) (fun s=>xs.length - s.i) ⟨0,.slice (some A) l.length c⟩ ⟨Nat.zero_le _,.inr ⟨A,c,by simp⟩⟩ [0,2] ⟨rfl,⟨rr,rr,rr,tU⟩,⟨⟨_,rfl,by simp only[List.take_zero,List.flatMap_nil,List.append_nil];exact kp⟩,⟨_,rfl,by rw[gV];rfl⟩,tU⟩⟩ ?_;rintro ⟨i,v⟩ ⟨hi,hv⟩;simp only[] at hi hv;obtain ⟨A1,c1,rfl⟩:=mc hv (by simp[aP]);have Ds:=hB i;by_cases an:i<xs.length
 ·have KT:bw 2 xs[i]:=h _ (by rw[<-gV];exact List.getElem_mem an);have hw:=KT.u64;have e:l++(xs.take (i+1)).flatMap (bs 2)=l++(xs.take i).flatMap (bs 2)++cG 2 xs[i].toNat:=by
   rw[bq an,List.flatMap_append,List.append_assoc];simp
  have Vx:l++(xs.take i).flatMap (bs 2)≠[]:=by simp[aP]
  obtain ⟨d,hd⟩:∃d,d=l++(xs.take i).flatMap (bs 2):=⟨_,rfl⟩;simp only[<-hd] at Ds e Vx ⊢;repeat' ((conv=>whnf);first|with_reducible apply af<;>intro _|(exfalso;rename_i hx;have:=dF1 hx;omega)|refine aO.of (k:=i) rfl (by omega) ?_|refine dL.val an ?_|(refine (pF (A:=A1) (c:=c1) (k:=2) (n:=xs[i].toNat) (l:=d) Vx (by decide) (by decide) (by have:=KT.2.2;omega) KT.lt Ds).use [0] (by rw[hw];rfl) rfl ⟨ko,tU⟩ ?_;rintro _ _ ⟨A2,n2,d2,Dx,rfl,G,rfl⟩;refine ⟨[],?_⟩)|refine ag aa rfl ?_)
  all_goals (try conv=>whnf)
  exact ⟨⟨i+1,.slice (some A2) d2.length n2⟩,[0,1],⟨⟨an,.inr ⟨A2,n2,by rw[e,Dx]⟩⟩,Nat.sub_lt_sub_left an (Nat.lt_succ_self _)⟩,rfl,⟨rr,rr,⟨rfl,ax rfl (ak (by first|omega|(simp only[];omega)) (by first|omega|(simp only[];omega)))⟩,tU⟩,⟨⟨_,rfl,by simp only[e,Dx];exact kp⟩,⟨_,rfl,rfl⟩,tU⟩⟩
 ·obtain rfl:i=xs.length:=by omega
  have e:l++(xs.take xs.length).flatMap (bs 2)=l++[x0,y0,x1,y1].flatMap (bs 2):=by rw[List.take_length,gV]
  simp only[e];repeat' ((conv=>whnf);first|with_reducible apply af<;>intro _|(exfalso;rename_i hx;have:=dT1 hx;omega)|refine ag aa rfl ?_)
  all_goals (try conv=>whnf)
  exact ⟨A1,c1,_,rfl,rfl,_,rfl⟩
theorem UL{A:Option Addr}{m:Nat}{l:List UInt8}(hl:l.length<=1000000000):CP [] 38 [.lit (.slice A l.length m)] [.res (aA cB 1 da (.slice A l.length m) l)] (lf (uA ((lH l % 4294967296:Nat):Int)) [.res (aA cB 1 da (.slice A l.length m) l)]):=by
 refine aj.nY 0 rfl (fun w S h=>Gk ⟨w,S,h⟩) fun BZ=>?_;refine ag aa rfl ?_;conv=>whnf
 refine aV aa rfl (fun k:Nat=>[(0,.lit (.slice A l.length m)),(3,uA (lH (l.take k) % 4294967296:Nat)),(4,iA (k:Nat))]) (fun _=>[.res (aA cB 1 da (.slice A l.length m) l)]) (fun k=>k<=l.length) (fun k=>l.length - k) 0 (Nat.zero_le _) [0] ⟨rfl,⟨rr,rr,rr,tU⟩,⟨ko,tU⟩⟩ ?_;intro k gl;by_cases hk:k<l.length
 ·obtain ⟨a,rfl,bu⟩:=BZ.at hk;repeat' ((conv=>whnf);first|with_reducible apply af<;>intro _|(exfalso;exact bT hk (by assumption))|refine al.bC aa rfl rfl rfl rfl rfl hk ?_|refine al.aR (i:=0) (v:=.lit (.int .u8 (l[k].toNat:Int))) rfl (fun w S hR=>bu w S hR k hk) rfl rfl ?_|refine al.rem rfl rfl rfl ?_|refine ag aa rfl ?_)
  all_goals (try conv=>whnf)
  have h1:=C3 (l.take k) l[k];rw[<-bq hk] at h1;have h3:l[k].toNat<256:=l[k].toNat_lt;have e:Int.tmod (IntKind.u64.wrap (↑(lH (l.take k) % 4294967296)+IntKind.u64.wrap ↑l[k].toNat)) 4294967296=((lH (l.take (k+1)) % 4294967296:Nat):Int):=by
   have e1:IntKind.u64.wrap (↑(lH (l.take k) % 4294967296)+IntKind.u64.wrap ↑l[k].toNat)=((lH (l.take k) % 4294967296+l[k].toNat:Nat):Int):=by
    rw[IntKind.wrap_u64,IntKind.wrap_u64];omega
   rw[e1,h1,Int.tmod_eq_emod_of_nonneg (by omega)];omega
  exact ⟨k+1,[0],⟨hk,by omega⟩,rfl,⟨rr,⟨rfl,VQ rfl e⟩,⟨rfl,ax rfl (ak (by omega) (by omega))⟩,tU⟩,⟨ko,tU⟩⟩
 ·obtain rfl:k=l.length:=by omega
  repeat' ((conv=>whnf);first|with_reducible apply af<;>intro _|(exfalso;exact cF hk (by assumption))|refine ag aa rfl ?_)
  all_goals (try conv=>whnf)
  rw[List.take_length];exact ⟨rfl,_,rfl⟩
