/- Part of the proof: Rf28. Conditions: as each states. -/
import Derived.Test.YtmbdghclhpboaaaGreatPw35
set_option linter.all false
set_option maxRecDepth 100000
namespace Go.Proofs.YtmbdghclhpboaaaGreat
open Ev Go.RowKit
def MX(l:List UInt8)(v:AV)(H':List af):Prop:=∃A n d,d=l/\v=.lit (.slice (some A) d.length n)/\∃G,H'=.res (aB cj 1 cK (.slice (some A) d.length n) d)::G
theorem Pj{k n:Nat}{H:List af}{K:AV->List af->Prop}(h1:1<=k)(h2:k<=8)(hn:n<18446744073709551616)(hk:n<256 ^ k)(eO:Nat.blt H.length aU=true)
  (kk:∀a m R,eG Tryz.prog R cK 1 (some a) zZ (bZ k n)->K (.tuple [.lit (.slice (some a) (bZ k n).length m),bA true]) (H++[.res R])):CP [] 101 [uA n,iA k] H K:=by
 have hl:(bZ k n).length=k:=bF k n;have aN:bZ k n≠[]:=fun e=>by rw[e] at hl;simp at hl;omega
 obtain ⟨j,rfl⟩:∃j,k=j+1:=⟨k - 1,by omega⟩;refine ag.Hq U rfl (ι:=Addr×Nat) (fun i=>.tuple [.lit (.slice (some i.1) (bZ (j+1) n).length i.2),bA true]) (fun i base w'=>Own cj 1 cK w' base (.slice (some i.1) (bZ (j+1) n).length i.2) (bZ (j+1) n)) rfl eO ?_ ?_
 ·intro w;refine (Ia j n w h2 hn).mono ?_;rintro e w' ⟨v,rfl,ho,hb⟩;rw[decide_eq_true hk];obtain ⟨A,cap,rfl⟩:=ho.form;obtain ⟨b,off,rfl,_,_⟩:=j8 ho aN;exact ⟨(_,cap),_,rfl,rfl,ho,hb⟩
 ·rintro ⟨a,m⟩ base w' _ ho;obtain ⟨b0,OK,e0,_⟩:=j8 ho aN;refine kk a m _ (eG.cells U FW fun _=>⟨b0,OK,e0,fun w S hw=>?_⟩);obtain ⟨b,off,h3,_,h4⟩:=j8 (DS ho hw) aN;rw[h3] at e0;simp only[Option.some.injEq,Addr.mk.injEq] at e0;obtain ⟨rfl,rfl,_⟩:=e0;rw[<-Kv];exact h4
structure FG where
 i:Nat
 v:Value
theorem oV{A:Addr}{c k n:Nat}{l:List UInt8}(aN:l≠[])(h1:1<=k)(h2:k<=8)(hn:n<18446744073709551616)(hk:n<256 ^ k)(hl:l.length<=900000000):CP [] 36 [.lit (.slice (some A) l.length c),uA n,iA k] [.res (aB cj 1 cK (.slice (some A) l.length c) l)] (MX (l++bZ k n)):=by
 have AF:(bZ k n).length=k:=bF k n;refine ae U rfl ?_;repeat' ((conv=>whnf);first|with_reducible apply aa<;>intro _|(refine Pj h1 h2 hn hk rfl fun a m R hR=>?_))
 obtain ⟨b,hb⟩:∃b,b=bZ k n:=⟨_,rfl⟩;rw[<-hb] at hR AF ⊢;refine aW U rfl (fun s:FG=>[(0,.lit s.v),(7,.lit (.slice (some a) b.length m)),(9,iA (s.i:Nat))]) (fun s=>[.res (aB cj 1 cK s.v (l++b.take s.i)),.res R]) (fun s=>s.i<=b.length/\ep s.v (l++b.take s.i)) (fun s=>b.length - s.i) ⟨0,.slice (some A) l.length c⟩ ⟨Nat.zero_le _,.inr ⟨A,c,by simp⟩⟩ [0,1] ⟨rfl,⟨rr,rr,rr,tU⟩,⟨⟨_,rfl,by simp only[List.take_zero,List.append_nil];exact kp⟩,ko,tU⟩⟩ ?_;rintro ⟨i,v⟩ ⟨hi,hv⟩;simp only[] at hi hv;obtain ⟨A1,c1,rfl⟩:=lG hv (by simp[aN]);have o9:(l++b.take i).length<=2147483600:=by rw[List.length_append,List.length_take];omega
 by_cases ah:i<b.length
 ·have e:l++b.take (i+1)=l++b.take i++[b[i]]:=by rw[bf ah,List.append_assoc]
  obtain ⟨a,bq⟩:∃hh:True,kn Tryz.prog R cK 1 a zZ b:=⟨tU,by obtain ⟨a',e,h⟩:=hR.at ah;cases e;exact h⟩;obtain ⟨d,hd⟩:∃d,d=l++b.take i:=⟨_,rfl⟩;simp only[<-hd] at o9 e ⊢;have k3:=fun w S hw=>bq w S hw i ah;repeat' ((conv=>whnf);first|with_reducible apply aa<;>intro _|(exfalso;exact ck ah (by assumption))|refine ai.bJ U rfl rfl rfl rfl rfl ah ?_|refine ai.aR (i:=1) (v:=.lit (zZ b[i])) rfl k3 rfl rfl ?_|(refine ai.om (eU.k9 U sW gO (by decide) s8 (i:=0) (y:=b[i]) (l:=d) (v:=.slice (some A1) d.length c1) (R1:=aA) (R':=fun v'=>aB cj 1 cK v' (d++[b[i]])) rfl rfl rfl rfl rfl rfl rfl me (fun v'=>oD) (by omega) ?_);intro A2 m2)|refine ae U rfl ?_)
  all_goals (try conv=>whnf)
  exact ⟨⟨i+1,.slice (some A2) (d.length+1) m2⟩,[0,1],⟨⟨ah,.inr ⟨A2,m2,by rw[e,List.length_append];rfl⟩⟩,Nat.sub_lt_sub_left ah (Nat.lt_succ_self _)⟩,rfl,⟨rr,rr,⟨rfl,aw rfl (aj (by first|omega|(simp only[];omega)) (by first|omega|(simp only[];omega)))⟩,tU⟩,⟨⟨_,rfl,by simp only[e];exact kp⟩,ko,tU⟩⟩
 ·obtain rfl:i=b.length:=by omega
  have e:l++b.take b.length=l++b:=by rw[List.take_length]
  simp only[e] at hv ⊢;repeat' ((conv=>whnf);first|with_reducible apply aa<;>intro _|(exfalso;exact cI ah (by assumption))|refine ae U rfl ?_)
  all_goals (try conv=>whnf)
  exact ⟨A1,c1,_,rfl,rfl,_,rfl⟩
structure Yr where
 i:Nat
 v:Value
 u:AV
theorem Pq{e0:TypeId}{k n:Nat}(h1:1<=k)(h2:k<=8)(hn:n<18446744073709551616)(hk:n<256 ^ k):CP [] 36 [.slice 0 0 0 (.k 0),uA n,iA k] [.row [] e0,.res (aB cj 1 cK aO [])] (fun v H'=>∃A m d,d=bZ k n/\v=.lit (.slice (some A) d.length m)/\∃G,H'=.row [] e0::.res (aB cj 1 cK (.slice (some A) d.length m) d)::G):=by
 have AF:(bZ k n).length=k:=bF k n;refine ae U rfl ?_;repeat' ((conv=>whnf);first|with_reducible apply aa<;>intro _|(refine Pj h1 h2 hn hk rfl fun a m R hR=>?_))
 obtain ⟨b,hb⟩:∃b,b=bZ k n:=⟨_,rfl⟩;rw[<-hb] at hR AF ⊢;refine aW U rfl (fun s:Yr=>[(0,s.u),(7,.lit (.slice (some a) b.length m)),(9,iA (s.i:Nat))]) (fun s=>[.row [] e0,.res (aB cj 1 cK s.v (b.take s.i)),.res R]) (fun s=>s.i<=b.length/\((s.i=0/\s.u=.slice 0 0 0 (.k 0)/\s.v=aO)\/(0<s.i/\∃A c,s.v=.slice (some A) (b.take s.i).length c/\s.u=.lit (.slice (some A) (b.take s.i).length c)))) (fun s=>b.length - s.i) ⟨0,aO,.slice 0 0 0 (.k 0)⟩ ⟨Nat.zero_le _,.inl ⟨rfl,rfl,rfl⟩⟩ [0,1,2] ⟨rfl,⟨rr,rr,rr,tU⟩,⟨⟨_,rfl,rfl⟩,ko,ko,tU⟩⟩ ?_;rintro ⟨i,v,u⟩ ⟨hi,hv⟩;simp only[] at hi hv;have o9:(b.take i).length<=2147483600:=by rw[List.length_take];omega
 by_cases ah:i<b.length
 ·have e:b.take (i+1)=b.take i++[b[i]]:=bf ah;obtain ⟨a,bq⟩:∃hh:True,kn Tryz.prog R cK 1 a zZ b:=⟨tU,by obtain ⟨a',e,h⟩:=hR.at ah;cases e;exact h⟩;have k3:=fun w S hw=>bq w S hw i ah;rcases hv with ⟨rfl,rfl,rfl⟩|⟨h0,A1,c1,rfl,rfl⟩
  ·have e:b.take (0+1)=[b[0]]:=e;simp only[List.take_zero];repeat' ((conv=>whnf);first|with_reducible apply aa<;>intro _|(exfalso;exact ck ah (by assumption))|refine ai.bJ U rfl rfl rfl rfl rfl ah ?_|refine ai.aR (i:=2) (v:=.lit (zZ b[0])) rfl k3 rfl rfl ?_|(refine ai.om (eU.Ng U sW gO (by decide) s8 (i:=1) (y:=b[0]) (R1:=aA) (R':=fun v'=>aB cj 1 cK v' [b[0]]) rfl rfl rfl rfl rfl rfl rfl me (fun v'=>oD) ?_);intro A2 m2)|(refine dP.om (eU.Ng U sW gO (by decide) s8 (i:=1) (y:=b[0]) (R1:=aA) (R':=fun v'=>aB cj 1 cK v' [b[0]]) rfl rfl rfl rfl rfl rfl rfl me (fun v'=>oD) ?_);intro A2 m2)|refine ae U rfl ?_)
   all_goals (try conv=>whnf)
   exact ⟨⟨0+1,.slice (some A2) 1 m2,.lit (.slice (some A2) 1 m2)⟩,[0,1,2],⟨⟨ah,.inr ⟨Nat.zero_lt_one,A2,m2,by rw[e];rfl,by rw[e];rfl⟩⟩,Nat.sub_lt_sub_left ah (Nat.lt_succ_self _)⟩,rfl,⟨rr,rr,⟨rfl,aw rfl (aj (by first|omega|(simp only[];omega)) (by first|omega|(simp only[];omega)))⟩,tU⟩,⟨⟨_,rfl,rfl⟩,⟨_,rfl,by simp only[e];exact kp⟩,ko,tU⟩⟩
  ·obtain ⟨d,hd⟩:∃d,d=b.take i:=⟨_,rfl⟩;simp only[<-hd] at o9 e ⊢;repeat' ((conv=>whnf);first|with_reducible apply aa<;>intro _|(exfalso;exact ck ah (by assumption))|refine ai.bJ U rfl rfl rfl rfl rfl ah ?_|refine ai.aR (i:=2) (v:=.lit (zZ b[i])) rfl k3 rfl rfl ?_|(refine ai.om (eU.k9 U sW gO (by decide) s8 (i:=1) (y:=b[i]) (l:=d) (v:=.slice (some A1) d.length c1) (R1:=aA) (R':=fun v'=>aB cj 1 cK v' (d++[b[i]])) rfl rfl rfl rfl rfl rfl rfl me (fun v'=>oD) (by omega) ?_);intro A2 m2)|refine ae U rfl ?_)
   all_goals (try conv=>whnf)
   exact ⟨⟨i+1,.slice (some A2) (d.length+1) m2,.lit (.slice (some A2) (d.length+1) m2)⟩,[0,1,2],⟨⟨ah,.inr ⟨Nat.succ_pos _,A2,m2,by rw[e,List.length_append];rfl,by rw[e,List.length_append];rfl⟩⟩,Nat.sub_lt_sub_left ah (Nat.lt_succ_self _)⟩,rfl,⟨rr,rr,⟨rfl,aw rfl (aj (by first|omega|(simp only[];omega)) (by first|omega|(simp only[];omega)))⟩,tU⟩,⟨⟨_,rfl,rfl⟩,⟨_,rfl,by simp only[e];exact kp⟩,ko,tU⟩⟩
 ·obtain rfl:i=b.length:=by omega
  have e:b.take b.length=b:=List.take_length;rcases hv with ⟨h0,_⟩|⟨h0,A1,c1,rfl,rfl⟩
  ·exact absurd h0 (by omega)
  simp only[e];repeat' ((conv=>whnf);first|with_reducible apply aa<;>intro _|(exfalso;exact cI ah (by assumption))|refine ae U rfl ?_)
  all_goals (try conv=>whnf)
  exact ⟨A1,c1,_,rfl,rfl,_,rfl⟩
theorem RQ{A:Addr}{c:Nat}{x0 y0 x1 y1:Int}{l:List UInt8}(aN:l≠[])(h:∀x∈[x0,y0,x1,y1],bm 2 x)(hl:l.length<=850000000):CP [] 37 [.lit (.slice (some A) l.length c),.agg [iA x0,iA y0,iA x1,iA y1]] [.res (aB cj 1 cK (.slice (some A) l.length c) l)] (MX (l++[x0,y0,x1,y1].flatMap (bs 2))):=by
 obtain ⟨xs,gw⟩:∃xs,xs=[x0,y0,x1,y1]:=⟨_,rfl⟩;have hx4:xs.length=4:=by rw[gw];rfl
 have hB:∀i,(l++(xs.take i).flatMap (bs 2)).length<=900000000:=fun i=>by
  have:((xs.take i).flatMap (bs 2)).length=(xs.take i).length * 2:=ee (fun x:Int=>bF 2 x.toNat) _;rw[List.length_append,this,List.length_take];omega
 refine ae U rfl ?_;conv=>whnf
 refine aW U rfl (fun s:FG=>[(0,.lit s.v),(5,.slice 1 0 4 (.k 4)),(6,iA (s.i:Nat))]) (fun s=>[.res (aB cj 1 cK s.v (l++(xs.take s.i).flatMap (bs 2))),.row (xs.map iK) 3]) (fun s=>s.i<=xs.length/\ep s.v (l++(xs.take s.i).flatMap (bs 2))) (fun s=>xs.length - s.i) ⟨0,.slice (some A) l.length c⟩ ⟨Nat.zero_le _,.inr ⟨A,c,by simp⟩⟩ [0,2] ⟨rfl,⟨rr,rr,rr,tU⟩,⟨⟨_,rfl,by simp only[List.take_zero,List.flatMap_nil,List.append_nil];exact kp⟩,⟨_,rfl,by rw[gw];rfl⟩,tU⟩⟩ ?_;rintro ⟨i,v⟩ ⟨hi,hv⟩;simp only[] at hi hv;obtain ⟨A1,c1,rfl⟩:=lG hv (by simp[aN]);have Cj:=hB i;by_cases ah:i<xs.length
 ·have Jt:bm 2 xs[i]:=h _ (by rw[<-gw];exact List.getElem_mem ah);have hw:=Jt.u64;have e:l++(xs.take (i+1)).flatMap (bs 2)=l++(xs.take i).flatMap (bs 2)++bZ 2 xs[i].toNat:=by
   rw[bf ah,List.flatMap_append,List.append_assoc];simp
  have SN:l++(xs.take i).flatMap (bs 2)≠[]:=by simp[aN]
  obtain ⟨d,hd⟩:∃d,d=l++(xs.take i).flatMap (bs 2):=⟨_,rfl⟩;simp only[<-hd] at Cj e SN ⊢;repeat' ((conv=>whnf);first|with_reducible apply aa<;>intro _|(exfalso;rename_i hx;have:=of_decide_eq_false hx;omega)|refine aI.of (k:=i) rfl (by omega) ?_|refine df.val ah ?_|(refine (oV (A:=A1) (c:=c1) (k:=2) (n:=xs[i].toNat) (l:=d) SN (by decide) (by decide) (by have:=Jt.2.2;omega) Jt.lt Cj).use [0] (by rw[hw];rfl) rfl ⟨ko,tU⟩ ?_;rintro _ _ ⟨A2,n2,d2,Co,rfl,G,rfl⟩;refine ⟨[],?_⟩)|refine ae U rfl ?_)
  all_goals (try conv=>whnf)
  exact ⟨⟨i+1,.slice (some A2) d2.length n2⟩,[0,1],⟨⟨ah,.inr ⟨A2,n2,by rw[e,Co]⟩⟩,Nat.sub_lt_sub_left ah (Nat.lt_succ_self _)⟩,rfl,⟨rr,rr,⟨rfl,aw rfl (aj (by first|omega|(simp only[];omega)) (by first|omega|(simp only[];omega)))⟩,tU⟩,⟨⟨_,rfl,by simp only[e,Co];exact kp⟩,⟨_,rfl,rfl⟩,tU⟩⟩
 ·obtain rfl:i=xs.length:=by omega
  have e:l++(xs.take xs.length).flatMap (bs 2)=l++[x0,y0,x1,y1].flatMap (bs 2):=by rw[List.take_length,gw]
  simp only[e];repeat' ((conv=>whnf);first|with_reducible apply aa<;>intro _|(exfalso;rename_i hx;have:=of_decide_eq_true hx;omega)|refine ae U rfl ?_)
  all_goals (try conv=>whnf)
  exact ⟨A1,c1,_,rfl,rfl,_,rfl⟩
theorem RW{A:Option Addr}{m:Nat}{l:List UInt8}(hl:l.length<=1000000000):CP [] 38 [.lit (.slice A l.length m)] [.res (aB cj 1 cK (.slice A l.length m) l)] (kl (uA ((kT l % 4294967296:Nat):Int)) [.res (aB cj 1 cK (.slice A l.length m) l)]):=by
 refine ag.nZ 0 rfl (fun w S h=>E3 ⟨w,S,h⟩) fun AR=>?_;refine ae U rfl ?_;conv=>whnf
 refine aW U rfl (fun k:Nat=>[(0,.lit (.slice A l.length m)),(3,uA (kT (l.take k) % 4294967296:Nat)),(4,iA (k:Nat))]) (fun _=>[.res (aB cj 1 cK (.slice A l.length m) l)]) (fun k=>k<=l.length) (fun k=>l.length - k) 0 (Nat.zero_le _) [0] ⟨rfl,⟨rr,rr,rr,tU⟩,⟨ko,tU⟩⟩ ?_;intro k gT;by_cases hk:k<l.length
 ·obtain ⟨a,rfl,bq⟩:=AR.at hk;repeat' ((conv=>whnf);first|with_reducible apply aa<;>intro _|(exfalso;exact ck hk (by assumption))|refine ai.bJ U rfl rfl rfl rfl rfl hk ?_|refine ai.aR (i:=0) (v:=.lit (.int .u8 (l[k].toNat:Int))) rfl (fun w S hR=>bq w S hR k hk) rfl rfl ?_|refine ai.rem rfl rfl rfl ?_|refine ae U rfl ?_)
  all_goals (try conv=>whnf)
  have h1:=BT (l.take k) l[k];rw[<-bf hk] at h1;have h3:l[k].toNat<256:=l[k].toNat_lt;have e:Int.tmod (IntKind.u64.wrap (↑(kT (l.take k) % 4294967296)+IntKind.u64.wrap ↑l[k].toNat)) 4294967296=((kT (l.take (k+1)) % 4294967296:Nat):Int):=by
   have e1:IntKind.u64.wrap (↑(kT (l.take k) % 4294967296)+IntKind.u64.wrap ↑l[k].toNat)=((kT (l.take k) % 4294967296+l[k].toNat:Nat):Int):=by
    rw[IntKind.wrap_u64,IntKind.wrap_u64];omega
   rw[e1,h1,Int.tmod_eq_emod_of_nonneg (by omega)];omega
  exact ⟨k+1,[0],⟨hk,by omega⟩,rfl,⟨rr,⟨rfl,S9 rfl e⟩,⟨rfl,aw rfl (aj (by omega) (by omega))⟩,tU⟩,⟨ko,tU⟩⟩
 ·obtain rfl:k=l.length:=by omega
  repeat' ((conv=>whnf);first|with_reducible apply aa<;>intro _|(exfalso;exact cI hk (by assumption))|refine ae U rfl ?_)
  all_goals (try conv=>whnf)
  rw[List.take_length];exact ⟨rfl,_,rfl⟩
end Go.Proofs.YtmbdghclhpboaaaGreat
