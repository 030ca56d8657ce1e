/- Part of the proof: Snw3 Snw4 Rdr7 Snw5. Conditions: as each states. -/
import Derived.Test.YtmbdghclhpboaaaGreatPq36
set_option linter.all false
set_option maxRecDepth 100000
set_option maxHeartbeats 8000000
namespace Go.Proofs.YtmbdghclhpboaaaGreat
open Ev
def gW(k:cy):List UInt8:=cG 8 k.bH++cG 8 k.parent++wB (kq k)
def AU(k:cy):Prop:=pb (kq k)/\k.bH<18446744073709551616/\k.parent<18446744073709551616
theorem SD{k:cy}{v:Value}{l L:List UInt8}(hv:cS v l)(h:AU k)(hl:l.length<=800000000)(hL:l++gW k=L):CP [] 163 [.ptr 0 0,.agg (rO k)] (kl v l) (gS L):=by
 cases hb:k.g.void with
 | true=>exact DM hv h.1 h.2.1 h.2.2 hb hl hL
 | false=>exact Dl hv h.1 h.2.1 h.2.2 hb hl hL
theorem uj(k:Nat)(x:Int):(bs k x).length=k:=bR k _
theorem CF(r:bW):(wB (eu r)).length=7:=by simp[wB,eu,uj]
theorem CX(s:df):(wB (ez s)).length=11:=by simp[wB,ez,uj]
theorem By(e:fS):(wB (eh e)).length=8:=by simp[wB,eh,uj]
theorem C7(k:cy):(gW k).length=31:=by simp[gW,wB,kq,uj,bR]
def cV(k n:Nat):List UInt8:=[(n:Int)].flatMap (bs k)
theorem lB(k n:Nat):(cV k n).length=k:=by simp[cV,uj]
theorem Ve{R:aC}{oa:Option Addr}{m:Nat}{xs:List bW}{v:Value}{l:List UInt8}(hv:cS v l)(hx:cU Tryz.prog R 72 4 oa yS xs)(eR:∀x∈xs,pb (eu x))(hn:bw 2 (xs.length:Int))(NS:xs.length<=60000)(hl:l.length<=700000000) :
  CP [] 82 [.ptr 0 0,iA (2:Nat),.lit (.slice oa xs.length m),.func (.func 83) [.ptr 0 0] []] (kl v l++[.res R]) (fun u H'=>u=aQ/\∃v' d G,d=l++cV 2 xs.length++xs.flatMap (fun x=>wB (eu x))/\cS v' d/\H'=kl v' d++.res R::G):=by
 have q0:∀x∈[(xs.length:Int)],bw 2 x:=fun x h=>by rw[List.mem_singleton.1 h];exact hn
 have hB:∀i,(l++cV 2 xs.length++(xs.take i).flatMap (fun x=>wB (eu x))).length<=800000000:=fun i=>by
  rw[List.length_append,List.length_append,lB,fU (fun r=>CF r),List.length_take];have:min i xs.length * 7<=60000 * 7:=Nat.mul_le_mul_right _ (by omega);omega
 refine ag aa rfl ?_;repeat' ((conv=>whnf);first|with_reducible apply af<;>intro _|(refine (kx (k:=2) (xs:=[(xs.length:Int)]) hv (by decide) (by decide) q0 (by simp) (by omega)).use [0,1,3] rfl rfl ⟨⟨_,rfl,rfl⟩,ko,⟨_,rfl,rfl⟩,tU⟩ ?_;rintro _ _ ⟨rfl,v',d,G,rfl,eJ,rfl⟩;refine ⟨[],?_⟩))
 refine aV aa rfl (fun s:Nh=>[(3,.func (.func 83) [.ptr 0 0] []),(16,.lit (.slice oa xs.length m)),(17,iA xs.length),(18,iA (s.i:Nat))]) (fun s=>kl s.v (l++cV 2 xs.length++(xs.take s.i).flatMap (fun x=>wB (eu x)))++[.res R])
  (fun s=>s.i<=xs.length/\cS s.v (l++cV 2 xs.length++(xs.take s.i).flatMap (fun x=>wB (eu x)))) (fun s=>xs.length - s.i) ⟨0,v'⟩ ⟨Nat.zero_le _,by simpa [cV] using eJ⟩ [0,1,2] ?_ ?_
 ·exact ⟨rfl,⟨rr,rr,rr,rr,tU⟩,⟨⟨_,rfl,rfl⟩,⟨_,rfl,by simp only[List.take_zero,List.flatMap_nil,List.append_nil];exact fun _ _ h=>h⟩,ko,tU⟩⟩
 ·rintro ⟨i,v⟩ ⟨g9,hv⟩;simp only[] at g9 hv;by_cases hi:i<xs.length
  ·obtain ⟨a,rfl,bu⟩:=hx.at hi;have FV:=eR _ (List.getElem_mem hi);have Ds:=hB i;conv=>whnf
   refine af (fun _=>?_) (bT hi);repeat' ((conv=>whnf);first|with_reducible apply af<;>intro _|refine al.bC aa rfl rfl rfl rfl rfl hi ?_|refine al.aR (i:=2) (v:=.agg (lE xs[i])) rfl (fun w S hR=>bu w S hR i hi) rfl rfl ?_|(refine (SB hv FV Ds rfl).use [0,1] rfl rfl ⟨⟨_,rfl,rfl⟩,ko,tU⟩ ?_;rintro _ _ ⟨rfl,v',d,G,rfl,eJ,rfl⟩;refine ⟨[],?_⟩))
   all_goals (try conv=>whnf)
   have e:l++cV 2 xs.length++(xs.take (i+1)).flatMap (fun x=>wB (eu x))=l++cV 2 xs.length++(xs.take i).flatMap (fun x=>wB (eu x))++wB (eu xs[i]):=by
    rw[bq hi,List.flatMap_append];simp[List.append_assoc]
   refine ⟨⟨i+1,v'⟩,[0,1,2],⟨⟨hi,by show cS v' (l++cV 2 xs.length++(xs.take (i+1)).flatMap (fun x=>wB (eu x)));rw[e];exact eJ⟩,by show xs.length - (i+1)<xs.length - i;omega⟩,rfl,⟨rr,rr,rr,⟨rfl,ax rfl (ak (by dsimp only;omega) (by dsimp only;omega))⟩,tU⟩,⟨⟨_,rfl,rfl⟩,⟨_,rfl,?_⟩,ko,tU⟩⟩;show ∀w S,(aA cB 1 da v' _).at_ w S->(aA cB 1 da v' (l++cV 2 xs.length++(xs.take (i+1)).flatMap (fun x=>wB (eu x)))).at_ w S
   rw[e];exact fun _ _ h=>h
  ·obtain rfl:i=xs.length:=by omega
   rw[List.take_length] at hv;conv=>whnf
   refine af (cF hi) (fun _=>?_);repeat' ((conv=>whnf);with_reducible apply af<;>intro _)
   all_goals (try conv=>whnf)
   refine ⟨rfl,v,_,[],rfl,hv,?_⟩;show kl v (l++cV 2 xs.length++(xs.take xs.length).flatMap (fun x=>wB (eu x)))++[ai.res R]=_
   rw[List.take_length]
theorem Vf{R:aC}{oa:Option Addr}{m:Nat}{xs:List df}{v:Value}{l:List UInt8}(hv:cS v l)(hx:cU Tryz.prog R 78 6 oa JK xs)(eR:∀x∈xs,pb (ez x))(hn:bw 2 (xs.length:Int))(NS:xs.length<=60000)(hl:l.length<=700000000) :
  CP [] 84 [.ptr 0 0,iA (2:Nat),.lit (.slice oa xs.length m),.func (.func 85) [.ptr 0 0] []] (kl v l++[.res R]) (fun u H'=>u=aQ/\∃v' d G,d=l++cV 2 xs.length++xs.flatMap (fun x=>wB (ez x))/\cS v' d/\H'=kl v' d++.res R::G):=by
 have q0:∀x∈[(xs.length:Int)],bw 2 x:=fun x h=>by rw[List.mem_singleton.1 h];exact hn
 have hB:∀i,(l++cV 2 xs.length++(xs.take i).flatMap (fun x=>wB (ez x))).length<=800000000:=fun i=>by
  rw[List.length_append,List.length_append,lB,fU (fun r=>CX r),List.length_take];have:min i xs.length * 11<=60000 * 11:=Nat.mul_le_mul_right _ (by omega);omega
 refine ag aa rfl ?_;repeat' ((conv=>whnf);first|with_reducible apply af<;>intro _|(refine (kx (k:=2) (xs:=[(xs.length:Int)]) hv (by decide) (by decide) q0 (by simp) (by omega)).use [0,1,3] rfl rfl ⟨⟨_,rfl,rfl⟩,ko,⟨_,rfl,rfl⟩,tU⟩ ?_;rintro _ _ ⟨rfl,v',d,G,rfl,eJ,rfl⟩;refine ⟨[],?_⟩))
 refine aV aa rfl (fun s:Nh=>[(3,.func (.func 85) [.ptr 0 0] []),(16,.lit (.slice oa xs.length m)),(17,iA xs.length),(18,iA (s.i:Nat))]) (fun s=>kl s.v (l++cV 2 xs.length++(xs.take s.i).flatMap (fun x=>wB (ez x)))++[.res R])
  (fun s=>s.i<=xs.length/\cS s.v (l++cV 2 xs.length++(xs.take s.i).flatMap (fun x=>wB (ez x)))) (fun s=>xs.length - s.i) ⟨0,v'⟩ ⟨Nat.zero_le _,by simpa [cV] using eJ⟩ [0,1,2] ?_ ?_
 ·exact ⟨rfl,⟨rr,rr,rr,rr,tU⟩,⟨⟨_,rfl,rfl⟩,⟨_,rfl,by simp only[List.take_zero,List.flatMap_nil,List.append_nil];exact fun _ _ h=>h⟩,ko,tU⟩⟩
 ·rintro ⟨i,v⟩ ⟨g9,hv⟩;simp only[] at g9 hv;by_cases hi:i<xs.length
  ·obtain ⟨a,rfl,bu⟩:=hx.at hi;have FV:=eR _ (List.getElem_mem hi);have Ds:=hB i;conv=>whnf
   refine af (fun _=>?_) (bT hi);repeat' ((conv=>whnf);first|with_reducible apply af<;>intro _|refine al.bC aa rfl rfl rfl rfl rfl hi ?_|refine al.aR (i:=2) (v:=.agg (pG xs[i])) rfl (fun w S hR=>bu w S hR i hi) rfl rfl ?_|(refine (Vj hv FV Ds rfl).use [0,1] rfl rfl ⟨⟨_,rfl,rfl⟩,ko,tU⟩ ?_;rintro _ _ ⟨rfl,v',d,G,rfl,eJ,rfl⟩;refine ⟨[],?_⟩))
   all_goals (try conv=>whnf)
   have e:l++cV 2 xs.length++(xs.take (i+1)).flatMap (fun x=>wB (ez x))=l++cV 2 xs.length++(xs.take i).flatMap (fun x=>wB (ez x))++wB (ez xs[i]):=by
    rw[bq hi,List.flatMap_append];simp[List.append_assoc]
   refine ⟨⟨i+1,v'⟩,[0,1,2],⟨⟨hi,by show cS v' (l++cV 2 xs.length++(xs.take (i+1)).flatMap (fun x=>wB (ez x)));rw[e];exact eJ⟩,by show xs.length - (i+1)<xs.length - i;omega⟩,rfl,⟨rr,rr,rr,⟨rfl,ax rfl (ak (by dsimp only;omega) (by dsimp only;omega))⟩,tU⟩,⟨⟨_,rfl,rfl⟩,⟨_,rfl,?_⟩,ko,tU⟩⟩;show ∀w S,(aA cB 1 da v' _).at_ w S->(aA cB 1 da v' (l++cV 2 xs.length++(xs.take (i+1)).flatMap (fun x=>wB (ez x)))).at_ w S
   rw[e];exact fun _ _ h=>h
  ·obtain rfl:i=xs.length:=by omega
   rw[List.take_length] at hv;conv=>whnf
   refine af (cF hi) (fun _=>?_);repeat' ((conv=>whnf);with_reducible apply af<;>intro _)
   all_goals (try conv=>whnf)
   refine ⟨rfl,v,_,[],rfl,hv,?_⟩;show kl v (l++cV 2 xs.length++(xs.take xs.length).flatMap (fun x=>wB (ez x)))++[ai.res R]=_
   rw[List.take_length]
theorem Vd{R:aC}{oa:Option Addr}{m:Nat}{xs:List fS}{v:Value}{l:List UInt8}(hv:cS v l)(hx:cU Tryz.prog R 81 4 oa Px xs)(eR:∀x∈xs,pb (eh x))(hn:bw 4 (xs.length:Int))(NS:xs.length<=60000)(hl:l.length<=700000000) :
  CP [] 86 [.ptr 0 0,iA (4:Nat),.lit (.slice oa xs.length m),.func (.func 87) [.ptr 0 0] []] (kl v l++[.res R]) (fun u H'=>u=aQ/\∃v' d G,d=l++cV 4 xs.length++xs.flatMap (fun x=>wB (eh x))/\cS v' d/\H'=kl v' d++.res R::G):=by
 have q0:∀x∈[(xs.length:Int)],bw 4 x:=fun x h=>by rw[List.mem_singleton.1 h];exact hn
 have hB:∀i,(l++cV 4 xs.length++(xs.take i).flatMap (fun x=>wB (eh x))).length<=800000000:=fun i=>by
  rw[List.length_append,List.length_append,lB,fU (fun r=>By r),List.length_take];have:min i xs.length * 8<=60000 * 8:=Nat.mul_le_mul_right _ (by omega);omega
 refine ag aa rfl ?_;repeat' ((conv=>whnf);first|with_reducible apply af<;>intro _|(refine (kx (k:=4) (xs:=[(xs.length:Int)]) hv (by decide) (by decide) q0 (by simp) (by omega)).use [0,1,3] rfl rfl ⟨⟨_,rfl,rfl⟩,ko,⟨_,rfl,rfl⟩,tU⟩ ?_;rintro _ _ ⟨rfl,v',d,G,rfl,eJ,rfl⟩;refine ⟨[],?_⟩))
 refine aV aa rfl (fun s:Nh=>[(3,.func (.func 87) [.ptr 0 0] []),(16,.lit (.slice oa xs.length m)),(17,iA xs.length),(18,iA (s.i:Nat))]) (fun s=>kl s.v (l++cV 4 xs.length++(xs.take s.i).flatMap (fun x=>wB (eh x)))++[.res R])
  (fun s=>s.i<=xs.length/\cS s.v (l++cV 4 xs.length++(xs.take s.i).flatMap (fun x=>wB (eh x)))) (fun s=>xs.length - s.i) ⟨0,v'⟩ ⟨Nat.zero_le _,by simpa [cV] using eJ⟩ [0,1,2] ?_ ?_
 ·exact ⟨rfl,⟨rr,rr,rr,rr,tU⟩,⟨⟨_,rfl,rfl⟩,⟨_,rfl,by simp only[List.take_zero,List.flatMap_nil,List.append_nil];exact fun _ _ h=>h⟩,ko,tU⟩⟩
 ·rintro ⟨i,v⟩ ⟨g9,hv⟩;simp only[] at g9 hv;by_cases hi:i<xs.length
  ·obtain ⟨a,rfl,bu⟩:=hx.at hi;have FV:=eR _ (List.getElem_mem hi);have Ds:=hB i;conv=>whnf
   refine af (fun _=>?_) (bT hi);repeat' ((conv=>whnf);first|with_reducible apply af<;>intro _|refine al.bC aa rfl rfl rfl rfl rfl hi ?_|refine al.aR (i:=2) (v:=.agg (Bt xs[i])) rfl (fun w S hR=>bu w S hR i hi) rfl rfl ?_|(refine (Vh hv FV Ds rfl).use [0,1] rfl rfl ⟨⟨_,rfl,rfl⟩,ko,tU⟩ ?_;rintro _ _ ⟨rfl,v',d,G,rfl,eJ,rfl⟩;refine ⟨[],?_⟩))
   all_goals (try conv=>whnf)
   have e:l++cV 4 xs.length++(xs.take (i+1)).flatMap (fun x=>wB (eh x))=l++cV 4 xs.length++(xs.take i).flatMap (fun x=>wB (eh x))++wB (eh xs[i]):=by
    rw[bq hi,List.flatMap_append];simp[List.append_assoc]
   refine ⟨⟨i+1,v'⟩,[0,1,2],⟨⟨hi,by show cS v' (l++cV 4 xs.length++(xs.take (i+1)).flatMap (fun x=>wB (eh x)));rw[e];exact eJ⟩,by show xs.length - (i+1)<xs.length - i;omega⟩,rfl,⟨rr,rr,rr,⟨rfl,ax rfl (ak (by dsimp only;omega) (by dsimp only;omega))⟩,tU⟩,⟨⟨_,rfl,rfl⟩,⟨_,rfl,?_⟩,ko,tU⟩⟩;show ∀w S,(aA cB 1 da v' _).at_ w S->(aA cB 1 da v' (l++cV 4 xs.length++(xs.take (i+1)).flatMap (fun x=>wB (eh x)))).at_ w S
   rw[e];exact fun _ _ h=>h
  ·obtain rfl:i=xs.length:=by omega
   rw[List.take_length] at hv;conv=>whnf
   refine af (cF hi) (fun _=>?_);repeat' ((conv=>whnf);with_reducible apply af<;>intro _)
   all_goals (try conv=>whnf)
   refine ⟨rfl,v,_,[],rfl,hv,?_⟩;show kl v (l++cV 4 xs.length++(xs.take xs.length).flatMap (fun x=>wB (eh x)))++[ai.res R]=_
   rw[List.take_length]
theorem Vg{R:aC}{oa:Option Addr}{m:Nat}{xs:List cy}{v:Value}{l:List UInt8}(hv:cS v l)(hx:cU Tryz.prog R 96 10 oa sa xs)(eR:∀x∈xs,AU x)(hn:bw 1 (xs.length:Int))(NS:xs.length<=60000)(hl:l.length<=700000000) :
  CP [] 162 [.ptr 0 0,iA (1:Nat),.lit (.slice oa xs.length m),.func (.func 163) [.ptr 0 0] []] (kl v l++[.res R]) (fun u H'=>u=aQ/\∃v' d G,d=l++cV 1 xs.length++xs.flatMap gW/\cS v' d/\H'=kl v' d++.res R::G):=by
 have q0:∀x∈[(xs.length:Int)],bw 1 x:=fun x h=>by rw[List.mem_singleton.1 h];exact hn
 have hB:∀i,(l++cV 1 xs.length++(xs.take i).flatMap gW).length<=800000000:=fun i=>by
  rw[List.length_append,List.length_append,lB,fU C7,List.length_take];have:min i xs.length * 31<=60000 * 31:=Nat.mul_le_mul_right _ (by omega);omega
 refine ag aa rfl ?_;repeat' ((conv=>whnf);first|with_reducible apply af<;>intro _|(refine (kx (k:=1) (xs:=[(xs.length:Int)]) hv (by decide) (by decide) q0 (by simp) (by omega)).use [0,1,3] rfl rfl ⟨⟨_,rfl,rfl⟩,ko,⟨_,rfl,rfl⟩,tU⟩ ?_;rintro _ _ ⟨rfl,v',d,G,rfl,eJ,rfl⟩;refine ⟨[],?_⟩))
 refine aV aa rfl (fun s:Nh=>[(3,.func (.func 163) [.ptr 0 0] []),(16,.lit (.slice oa xs.length m)),(17,iA xs.length),(18,iA (s.i:Nat))]) (fun s=>kl s.v (l++cV 1 xs.length++(xs.take s.i).flatMap gW)++[.res R])
  (fun s=>s.i<=xs.length/\cS s.v (l++cV 1 xs.length++(xs.take s.i).flatMap gW)) (fun s=>xs.length - s.i) ⟨0,v'⟩ ⟨Nat.zero_le _,by simpa [cV] using eJ⟩ [0,1,2] ?_ ?_
 ·exact ⟨rfl,⟨rr,rr,rr,rr,tU⟩,⟨⟨_,rfl,rfl⟩,⟨_,rfl,by simp only[List.take_zero,List.flatMap_nil,List.append_nil];exact fun _ _ h=>h⟩,ko,tU⟩⟩
 ·rintro ⟨i,v⟩ ⟨g9,hv⟩;simp only[] at g9 hv;by_cases hi:i<xs.length
  ·obtain ⟨a,rfl,bu⟩:=hx.at hi;have FV:=eR _ (List.getElem_mem hi);have Ds:=hB i;conv=>whnf
   refine af (fun _=>?_) (bT hi);repeat' ((conv=>whnf);first|with_reducible apply af<;>intro _|refine al.bC aa rfl rfl rfl rfl rfl hi ?_|refine al.aR (i:=2) (v:=.agg (rO xs[i])) rfl (fun w S hR=>bu w S hR i hi) rfl rfl ?_|(refine (SD hv FV Ds rfl).use [0,1] rfl rfl ⟨⟨_,rfl,rfl⟩,ko,tU⟩ ?_;rintro _ _ ⟨rfl,v',d,G,rfl,eJ,rfl⟩;refine ⟨[],?_⟩))
   all_goals (try conv=>whnf)
   have e:l++cV 1 xs.length++(xs.take (i+1)).flatMap gW=l++cV 1 xs.length++(xs.take i).flatMap gW++gW xs[i]:=by
    rw[bq hi,List.flatMap_append];simp[List.append_assoc]
   refine ⟨⟨i+1,v'⟩,[0,1,2],⟨⟨hi,by show cS v' (l++cV 1 xs.length++(xs.take (i+1)).flatMap gW);rw[e];exact eJ⟩,by show xs.length - (i+1)<xs.length - i;omega⟩,rfl,⟨rr,rr,rr,⟨rfl,ax rfl (ak (by dsimp only;omega) (by dsimp only;omega))⟩,tU⟩,⟨⟨_,rfl,rfl⟩,⟨_,rfl,?_⟩,ko,tU⟩⟩;show ∀w S,(aA cB 1 da v' _).at_ w S->(aA cB 1 da v' (l++cV 1 xs.length++(xs.take (i+1)).flatMap gW)).at_ w S
   rw[e];exact fun _ _ h=>h
  ·obtain rfl:i=xs.length:=by omega
   rw[List.take_length] at hv;conv=>whnf
   refine af (cF hi) (fun _=>?_);repeat' ((conv=>whnf);with_reducible apply af<;>intro _)
   all_goals (try conv=>whnf)
   refine ⟨rfl,v,_,[],rfl,hv,?_⟩;show kl v (l++cV 1 xs.length++(xs.take xs.length).flatMap gW)++[ai.res R]=_
   rw[List.take_length]
theorem VQ{t:aE}{i:Nat}{n m:Int}{g:Nat->Nat}(h:t.get i=some (uA m))(e:m=n):t.get i=some ((uA n).cI g):=by rw[h,e];rfl
theorem cU.cells{α:Type}{P:Program}{E:Env}(hE:cL P E){R:aC}{ty:TypeId}{enc:α->Value}{l:List α}{oa:Option Addr}(kW:∃r,E.ty ty=some r/\bQ r.bp=false)(h:l≠[]->∃b off,oa=some ⟨b,off,none⟩/\∀w S,R.at_ w S->ir w b off (l.map enc)):cU P R ty 1 oa enc l:=fun aP=>by
 obtain ⟨b,off,rfl,hl⟩:=h aP;refine ⟨_,rfl,fun w S hw q hq=>?_⟩;obtain ⟨r,hr,nA⟩:=kW;rw[Addr.add_mid,Nat.mul_one];have hc:=hl w S hw q (enc l[q]) (by rw[List.getElem?_map,List.getElem?_eq_getElem hq];rfl);unfold loadVar;rw[Sem.run_bind,qD hE hr w,nA];simp only[Result.andThen_ok,Bool.false_eq_true,if_false,run_load,hc]
theorem Fu(l:List UInt8):l.flatMap cB=l.map fun b=>Value.int .u8 (b.toNat:Int):=by
 induction l with
 | nil=>rfl
 | cons a l ih=>rw[List.flatMap_cons,ih];rfl
theorem Bf:∃r,ev.ty da=some r/\bQ r.bp=false:=⟨_,rfl,rfl⟩
theorem Gk{A:Option Addr}{m:Nat}{l:List UInt8}(hh:∃w S,(aA cB 1 da (.slice A l.length m) l).at_ w S):cU Tryz.prog (aA cB 1 da (.slice A l.length m) l) da 1 A (fun b=>.int .u8 (b.toNat:Int)) l:=
 cU.cells aa Bf fun aP=>by
  obtain ⟨w0,S0,h0⟩:=hh;obtain ⟨b,off,rfl,_,_⟩:=jj h0.1 aP;refine ⟨b,off,rfl,fun w S h=>?_⟩;obtain ⟨b',I6,e,_,hl⟩:=jj h.1 aP;simp only[Option.some.injEq,Addr.mk.injEq] at e;obtain ⟨rfl,rfl,_⟩:=e;rw[<-Fu];exact hl
def lH(l:List UInt8):Nat:=(l.map UInt8.toNat).sum
theorem C3(l:List UInt8)(b:UInt8):lH (l++[b])=lH l+b.toNat:=by simp[lH]
theorem JS:∀l:List UInt8,lH l<=255 * l.length
 | []=>by simp[lH]
 | a::l=>by
   have h:=JS l;have:a.toNat<256:=a.toNat_lt;simp only[lH,List.map_cons,List.sum_cons,List.length_cons] at h ⊢;omega
theorem aaB{A:Option Addr}{m:Nat}{l:List UInt8}(hl:l.length<=1000000000):CP [] 89 [.lit (.slice A l.length m)] [.res (aA cB 1 da (.slice A l.length m) l)] (fun v H'=>v=uA ((lH l % 4294967296:Nat):Int)/\∃G,H'=.res (aA cB 1 da (.slice A l.length m) l)::G):=by
 refine aj.nY 0 rfl (fun w S h=>Gk ⟨w,S,h⟩) fun BZ=>?_;refine ag aa rfl ?_;conv=>whnf
 refine aV aa rfl (fun k:Nat=>[(3,uA (lH (l.take k):Nat)),(6,.lit (.slice A l.length m)),(7,iA l.length),(8,iA (k:Nat))]) (fun _=>[.res (aA cB 1 da (.slice A l.length m) l)]) (fun k=>k<=l.length) (fun k=>l.length - k) 0 (Nat.zero_le _) [0] ?_ ?_
 ·exact ⟨rfl,⟨rr,rr,rr,rr,tU⟩,⟨ko,tU⟩⟩
 ·intro k gl;by_cases hk:k<l.length
  ·obtain ⟨a,rfl,bu⟩:=BZ.at hk;conv=>whnf
   refine af (fun _=>?_) (bT hk);repeat' ((conv=>whnf);first|with_reducible apply af<;>intro _|refine al.bC aa rfl rfl rfl rfl rfl hk ?_|refine al.aR (i:=0) (v:=.lit (.int .u8 (l[k].toNat:Int))) rfl (fun w S hR=>bu w S hR k hk) rfl rfl ?_)
   all_goals (try conv=>whnf)
   have h1:=C3 (l.take k) l[k];rw[<-bq hk] at h1;have h2:=JS (l.take k);rw[List.length_take] at h2;have h3:l[k].toNat<256:=l[k].toNat_lt;have e:IntKind.u64.wrap (↑(lH (l.take k))+IntKind.u64.wrap ↑l[k].toNat)=((lH (l.take (k+1)):Nat):Int):=by
    rw[IntKind.wrap_u64,IntKind.wrap_u64,h1];omega
   exact ⟨k+1,[0],⟨hk,by omega⟩,rfl,⟨⟨rfl,VQ rfl e⟩,⟨rfl,rfl⟩,⟨rfl,rfl⟩,⟨rfl,ax rfl (ak (by omega) (by omega))⟩,tU⟩,⟨ko,tU⟩⟩
  ·obtain rfl:k=l.length:=by omega
   conv=>whnf
   refine af (cF hk) (fun _=>?_);repeat' ((conv=>whnf);first|with_reducible apply af<;>intro _|refine al.rem rfl rfl rfl ?_)
   all_goals (try conv=>whnf)
   rw[List.take_length];exact ⟨congrArg uA (by rw[Int.natCast_emod];exact Int.tmod_eq_emod_of_nonneg (by omega)),_,rfl⟩
def oW(m:Mem):List (Nat×List Int):=[(2,[m.user]),(1,[m.role,m.jo]),(2,[m.fL,m.k])]
def xm(m:Mem)(tk:List cy):List UInt8:=wB (oW m)++cG 8 m.cu.toNat++(cV 1 tk.length++tk.flatMap gW)
def AP(m:Mem)(tk:List cy):Prop:=pb (oW m)/\(0<=m.cu/\m.cu<18446744073709551616)/\tk.length<=8/\∀k∈tk,AU k
theorem QK{m:Mem}{tk:List cy}(h:tk.length<=8):(xm m tk).length<=300:=by
 have e:(wB (oW m)).length=8:=by simp[wB,oW,uj]
 unfold xm;rw[List.length_append,List.length_append,List.length_append,e,bR,lB,fU C7];omega
theorem SA{R:aC}{m:Mem}{x:dW}{v:Value}{l L:List UInt8}(hv:cS v l)(hx:cU Tryz.prog R 96 10 x.oa sa x.l)(h:AP m x.l)(hl:l.length<=600000000)(hL:l++xm m x.l=L) :
  CP [] 81 [.ptr 0 0,.agg (mA m),.lit (lN x)] (kl v l++[.res R]) (fun u H'=>u=aQ/\∃v' d G,d=L/\cS v' d/\H'=kl v' d++.res R::G):=by
 have q0:∀y∈[m.user],bw 2 y:=h.1 (2,_) (by simp[oW]);have q1:∀y∈[m.role,m.jo],bw 1 y:=h.1 (1,_) (by simp[oW]);have q2:∀y∈[m.fL,m.k],bw 2 y:=h.1 (2,[m.fL,m.k]) (by simp[oW]);have q3:m.cu.toNat<18446744073709551616:=by have:=h.2.1;omega
 have q4:((m.cu.toNat:Nat):Int)=m.cu:=Int.toNat_of_nonneg h.2.1.1;have q5:bw 1 (x.l.length:Int):=⟨by omega,by have:=h.2.2.1;show (x.l.length:Int)<256;omega,by have:=h.2.2.1;omega⟩;have h8:=h.2.2.1;refine ag aa rfl ?_;refine eX.of rfl rfl ?_;refine aI.az fun F hF=>?_;repeat' ((conv=>whnf);first|with_reducible apply af<;>intro _|(refine (kx (k:=2) (xs:=[m.user]) (by assumption) (by decide) (by decide) q0 (by simp) (by clear q3;omega)).use [0,1,4] rfl rfl ⟨⟨_,rfl,rfl⟩,ko,⟨_,rfl,rfl⟩,tU⟩ ?_;rintro _ _ ⟨rfl,v',d,G,hd,eJ,rfl⟩;have cY:=congrArg List.length hd;simp only[cN,bM,List.length_cons,List.length_nil] at cY;refine ⟨[],?_⟩)|(refine (kx (k:=1) (xs:=[m.role,m.jo]) (by assumption) (by decide) (by decide) q1 (by simp) (by clear q3;omega)).use [0,1,5] rfl rfl ⟨⟨_,rfl,rfl⟩,ko,⟨_,rfl,rfl⟩,tU⟩ ?_;rintro _ _ ⟨rfl,v',d,G,hd,eJ,rfl⟩;have cY:=congrArg List.length hd;simp only[cN,bM,List.length_cons,List.length_nil] at cY;refine ⟨[],?_⟩)|(refine (kx (k:=2) (xs:=[m.fL,m.k]) (by assumption) (by decide) (by decide) q2 (by simp) (by clear q3;omega)).use [0,1,6] rfl rfl ⟨⟨_,rfl,rfl⟩,ko,⟨_,rfl,rfl⟩,tU⟩ ?_;rintro _ _ ⟨rfl,v',d,G,hd,eJ,rfl⟩;have cY:=congrArg List.length hd;simp only[cN,bM,List.length_cons,List.length_nil] at cY;refine ⟨[],?_⟩)|(refine (wC (k:=8) (n:=m.cu.toNat) (by assumption) (by decide) (by decide) q3 (zL q3) (by clear q3;omega)).use [0,1] (by rw[q4];rfl) rfl ⟨⟨_,rfl,rfl⟩,ko,tU⟩ ?_;rintro _ _ ⟨rfl,v',d,G,hd,eJ,rfl⟩;have cY:=congrArg List.length hd;simp only[cN,bM,List.length_cons,List.length_nil] at cY;refine ⟨[],?_⟩)|(refine (Vg (m:=x.c) (by assumption) hx h.2.2.2 q5 (by clear q3;omega) (by clear q3;omega)).use [0,1,2] rfl rfl ⟨⟨_,rfl,rfl⟩,ko,ko,tU⟩ ?_;rintro _ _ ⟨rfl,v',d,G,hd,eJ,rfl⟩;refine ⟨[],?_⟩)|(subst hF;refine aI.az fun F hF=>?_)|subst hF)
 all_goals (try conv=>whnf)
 refine ⟨rfl,_,_,_,?_,by assumption,rfl⟩;rw[<-hL];clear hL;subst_vars;simp[xm,wB,oW,List.append_assoc]
theorem mX:∀{L:List aC} {w:World} {S:Nat->Prop} {r:aC},bD L w S->r∈L->∃S1,r.at_ w S1
 | _::_,_,_,_,⟨S1,S2,h1,h2,_,_⟩,h=>by
   rcases List.mem_cons.1 h with rfl|h
   ·exact ⟨S1,h1⟩
   ·exact mX h2 h
theorem CZ:∀(X:List ai) (w:World),bD (cz (X.map ny)) w fun _=>False
 | [],w=>fun _ h=>h
 | a::X,w=>by
   refine ⟨fun _=>False,fun _=>False,?_,CZ X w,fun _ h=>h.elim,fun b=>by simp⟩;have e:iI (ny a)=aB:=by cases a<;>rfl
   rw[e];exact fun _ h=>h
theorem Ev.bj.S6(M:List aC)(X:List ai):bj (aC.star M::cz X) (aC.star (M++cz X)::cz (X.map ny)):=fun w T ⟨S1,S2,h1,h2,hd,hT⟩=>⟨T,fun _ h=>h,T,fun _=>False,dK.2 ⟨S1,S2,h1,h2,hd,hT⟩,CZ X w,fun _ _ h=>h,fun b=>by simp⟩
theorem xu{α:Type}{enc:α->List Value}{k:Nat}{e:TypeId}{A:Option Addr}{c:Nat}{l:List α}{L:List aC}(hm:aA enc k e (.slice A l.length c) l∈L)(hf:cS (.slice A l.length c) l)(hk:∀a,(enc a).length=k)(kW:∃r,ev.ty e=some r/\r.info.size=k/\bQ r.bp=true):cU Tryz.prog (aC.star L) e k A (fun a=>.agg (enc a).toArray) l:=fun aP=>by
 by_cases hw:∃w S,(aC.star L).at_ w S
 ·obtain ⟨w0,S0,h0⟩:=hw;obtain ⟨S1,h1⟩:=mX h0 hm;obtain ⟨b,off,rfl,_,_⟩:=jj h1.1 aP;refine cU.lay aa hk kW (fun _=>⟨b,off,rfl,fun w S h=>?_⟩) aP;obtain ⟨S2,h2⟩:=mX h hm;obtain ⟨b',I6,e,_,hl⟩:=jj h2.1 aP;simp only[Option.some.injEq,Addr.mk.injEq] at e;obtain ⟨rfl,rfl,_⟩:=e;exact hl
 ·rcases hf with ⟨_,h⟩|⟨a,n,h⟩
  ·exact absurd h aP
  ·injection h with e1;exact ⟨a,e1,fun w S h=>absurd ⟨w,S,h⟩ hw⟩
theorem QD{α:Type}{enc:α->List Value}{k:Nat}{e:TypeId}{b off:Nat}{l:List α}{L:List aC}(hm:iP ⟨b,off,none⟩ (l.flatMap enc)∈L)(hk:∀a,(enc a).length=k)(kW:∃r,ev.ty e=some r/\r.info.size=k/\bQ r.bp=true):cU Tryz.prog (aC.star L) e k (some ⟨b,off,none⟩) (fun a=>.agg (enc a).toArray) l:=
 cU.lay aa hk kW fun _=>⟨b,off,rfl,fun w S h j u hj=>by
  obtain ⟨S1,h1⟩:=mX h hm;exact h1.1 j u hj⟩
theorem QC{α:Type}{enc:α->Value}{e:TypeId}{b off:Nat}{l:List α}{L:List aC}(hm:iP ⟨b,off,none⟩ (l.map enc)∈L)(kW:∃r,ev.ty e=some r/\bQ r.bp=false):cU Tryz.prog (aC.star L) e 1 (some ⟨b,off,none⟩) enc l:=
 cU.cells aa kW fun _=>⟨b,off,rfl,fun w S h j u hj=>by
  obtain ⟨S1,h1⟩:=mX h hm;exact h1.1 j u hj⟩
theorem cU.nil{α:Type}{P:Program}{R:aC}{ty:TypeId}{size:Nat}{oa:Option Addr}{enc:α->Value}:cU P R ty size oa enc []:=fun h=>absurd rfl h
def aaD(acc:List (Mem×List cy))(tk:List dW)(vm vt:Value)(rows:List ai):Nat->Prop
 | 0=>vm=aD/\vt=aD/\rows=[]
 | i+1=>∃bm om cm bt ot ct,vm=.slice (some ⟨bm,om,none⟩) (i+1) cm/\vt=.slice (some ⟨bt,ot,none⟩) (i+1) ct/\rows=[.res (iP ⟨bm,om,none⟩ ((acc.map (·.1)).flatMap mL)),.res (iP ⟨bt,ot,none⟩ (tk.map lN))]
def aaE(acc:List (Mem×List cy))(tk:List dW)(vm:Value)(rows:List ai):Nat->Prop
 | 0=>vm=aD/\rows=[]
 | i+1=>∃bm om cm,vm=.slice (some ⟨bm,om,none⟩) (i+1) cm/\rows=[.res (iP ⟨bm,om,none⟩ ((acc.map (·.1)).flatMap mL)),.row (tk.map lN) 52]
def YI(R:aC)(s:aH)(v:AV)(H':List ai):Prop:=∃i acc tk gH s' vr vs tx ve p A B rest vm rows,acc.length=i/\tk.length=i/\s'.Ok R/\V5 s acc tk gH s' vr vs tx ve p rest/\aaE acc tk vm rows i/\v=.agg [.lit vm,sx 6 1 i,.lit vr,.lit vs,.lit (.string tx),.lit ve,iA p]/\H'=c9 s'::.res R::.res (iq gH)::A::B::rows++rest
def YJ(R:aC)(s:aH)(v:AV)(H':List ai):Prop:=∃i acc tk gH s' vr vs tx ve p A B rest vm vt rows,acc.length=i/\tk.length=i/\s'.Ok R/\V5 s acc tk gH s' vr vs tx ve p rest/\aaD acc tk vm vt rows i/\v=.agg [.lit vm,.lit vt,.lit vr,.lit vs,.lit (.string tx),.lit ve,iA p]/\H'=c9 s'::.res R::.res (iq gH)::A::B::rows++rest
theorem I7{o:Nat}{v:Value}:AQ o (.lit v):=fun _ _=>rfl
theorem RZ{R:aC}{s:aH}(h:s.Ok R)(hl:s.l.length<=1000000000):CP [] 39 [.ptr 0 0] [c9 s,.res R,.res (iq [])] (YI R s):=by
 refine aj.VG (RY h hl) ?_;rintro _ _ ⟨i,acc,tk,gH,s',vr,vs,tx,ve,p,A,B,rest,h1,h2,h3,h4,rfl,rfl⟩;rcases i with _|i
 ·left;exact ⟨0,acc,tk,gH,s',vr,vs,tx,ve,p,A,B,rest,aD,[],h1,h2,h3,h4,⟨rfl,rfl⟩,rfl,rfl⟩
 ·right;refine ⟨[],[sx 6 1 (i+1),.lit vr,.lit vs,.lit (.string tx),.lit ve,iA p],5,i+1,.grown 6,_,_,rfl,by omega,rfl,fun u hu=>?_,fun b off m=>?_⟩
  ·simp only[List.nil_append,List.mem_cons,List.not_mem_nil,or_false] at hu;rcases hu with rfl|rfl|rfl|rfl|rfl|rfl
   ·exact fun g hg=>by
     show AV.slice (g 6) 0 (i+1) (.grown 1)=_
     rw[hg 6 (by decide)];rfl
   all_goals exact I7
  ·exact ⟨i+1,acc,tk,gH,s',vr,vs,tx,ve,p,A,B,rest,_,_,h1,h2,h3,h4,⟨b,off,m,rfl,rfl⟩,rfl,rfl⟩
theorem R4{R:aC}{s:aH}(h:s.Ok R)(hl:s.l.length<=1000000000):CP [] 39 [.ptr 0 0] [c9 s,.res R,.res (iq [])] (YJ R s):=by
 refine aj.VG (RZ h hl) ?_;rintro _ _ ⟨i,acc,tk,gH,s',vr,vs,tx,ve,p,A,B,rest,vm,rows,h1,h2,h3,h4,h5,rfl,rfl⟩;rcases i with _|i
 ·left;obtain ⟨rfl,rfl⟩:=h5;exact ⟨0,acc,tk,gH,s',vr,vs,tx,ve,p,A,B,rest,aD,aD,[],h1,h2,h3,h4,⟨rfl,rfl,rfl⟩,rfl,rfl⟩
 ·right;obtain ⟨bm,om,cm,rfl,rfl⟩:=h5;refine ⟨[.lit (.slice (some ⟨bm,om,none⟩) (i+1) cm)],[.lit vr,.lit vs,.lit (.string tx),.lit ve,iA p],6,i+1,.grown 1,_,_,rfl,by omega,rfl,fun u hu=>?_,fun b off m=>?_⟩
  ·simp only[List.cons_append,List.nil_append,List.mem_cons,List.not_mem_nil,or_false] at hu;rcases hu with rfl|rfl|rfl|rfl|rfl|rfl;all_goals exact I7
  ·exact ⟨i+1,acc,tk,gH,s',vr,vs,tx,ve,p,A,B,rest,_,_,_,h1,h2,h3,h4,⟨bm,om,cm,b,off,m,rfl,rfl,rfl⟩,rfl,rfl⟩
def DR(k:cy):Prop:=k.bH<18446744073709551616/\k.parent<18446744073709551616
theorem Yp(s:aH):DR s.qG.1:=⟨Cd (by decide),Cd (by decide)⟩
theorem MX:∀(n:Nat) (s:aH) (acc:List cy),(∀k∈acc,DR k)->∀k∈(bO aH.qG n s acc).1,DR k
 | 0,s,acc,h=>h
 | n+1,s,acc,h=>by
   unfold bO;split
   ·intro k hk;cases hk
   ·exact MX n _ _ fun k hk=>by
     rcases List.mem_append.1 hk with hk|hk
     ·exact h k hk
     ·rw[List.mem_singleton.1 hk];exact Yp s
theorem Mq:∀(n:Nat) (s:aH) (acc:List (Mem×List cy)),(∀m∈acc,∀k∈m.2,DR k)->∀m∈(jt n s acc).1,∀k∈m.2,DR k
 | 0,s,acc,h=>h
 | n+1,s,acc,h=>by
   unfold jt;split
   ·exact h
   ·exact Mq n _ _ fun m hm=>by
     rcases List.mem_append.1 hm with hm|hm
     ·exact h m hm
     ·rw[List.mem_singleton.1 hm];unfold aH.mem;simp only[];exact MX _ _ _ (fun k hk=>by cases hk)
theorem MY(s:aH):s.mW.1.ms=(jt ((s.num 8).2.num 2).1 ((s.num 8).2.num 2).2 []).1:=by
 unfold aH.mW;simp only[];split<;>rfl
theorem Yl{s s':aH}{x:pq}(h:s.mW=(x,s')):∀m∈x.ms,∀k∈m.2,DR k:=by
 have e:x=s.mW.1:=by rw[h]
 rw[e,MY];exact Mq _ _ _ (fun m hm=>by cases hm)
structure AT(x:pq)(q:bG)(tk:List dW):Prop where
 ms:q.ms=x.ms.map (·.1)
 tk:tk.map dW.l=x.ms.map (·.2)
 rs:q.rs=x.rs
 ss:q.ss=x.ss
 es:q.es=x.es
 tx:q.tx=⟨x.tx.toArray⟩
 past:q.past=x.past
theorem N2:∃r,ev.ty 51=some r/\r.info.size=6/\bQ r.bp=true:=⟨_,rfl,rfl,rfl⟩
theorem Ol:∃r,ev.ty 72=some r/\r.info.size=4/\bQ r.bp=true:=⟨_,rfl,rfl,rfl⟩
theorem Ow:∃r,ev.ty 78=some r/\r.info.size=6/\bQ r.bp=true:=⟨_,rfl,rfl,rfl⟩
theorem Nx:∃r,ev.ty 81=some r/\r.info.size=4/\bQ r.bp=true:=⟨_,rfl,rfl,rfl⟩
theorem OJ:∃r,ev.ty 96=some r/\r.info.size=10/\bQ r.bp=true:=⟨_,rfl,rfl,rfl⟩
theorem OL:∃r,ev.ty 52=some r/\bQ r.bp=false:=⟨_,rfl,rfl⟩
def O3(R:aC)(tk:List dW):Prop:=∀w S,R.at_ w S->∀x∈tk,x.l.length<=x.c
theorem UK{R:aC}{s:aH}(h:s.Ok R)(hl:s.l.length<=1000000000):CP [] 39 [.ptr 0 0] [c9 s,.res R] (fun v H'=>∃x s' q tk RR G,s.mW=(x,s')/\s'.Ok R/\(s'.bad=false->AT x q tk/\q.Rd RR/\q.Tk RR tk/\O3 RR tk)/\v=.agg q.a/\H'=c9 s'::.res R::.res RR::G):=by
 refine aj.post (aj.pre (eg.more (R:=iq []) rfl (bj.gO GP _)) (R4 h hl)) ?_;rintro _ _ ⟨i,acc,tk,gH,s',vr,vs,tx,ve,p,A,B,rest,vm,vt,rows,h1,h2,h3,h4,h5,rfl,rfl⟩;obtain ⟨M,hM⟩:∃M,M=gH.map fun x=>aA tC 10 96 (lN x) x.l:=⟨_,rfl⟩;have hP:eg (c9 s'::.res R::.res (iq gH)::A::B::rows++rest) (c9 s'::.res R::.res (aC.star (M++cz (A::B::rows++rest)))::(A::B::rows++rest).map ny):=by
  refine eg.same ?_ (.cons _ (.cons _ ?_))
  ·simp only[List.map_cons,List.cons_append,List.map_append,List.map_map,GU];refine congrArg _ (congrArg _ (congrArg _ (congrArg _ (congrArg _ ?_))));rw[show vw∘ny=vw from funext GU]
  ·rw[hM];exact .S6 _ _
 refine ⟨_,hP,?_⟩;have KD:∃om cm ot ct,vm=.slice om i cm/\vt=.slice ot i ct:=by
  rcases i with _|i
  ·obtain ⟨rfl,rfl,_⟩:=h5;exact ⟨none,0,none,0,rfl,rfl⟩
  ·obtain ⟨bm,om,cm,bt,ot,ct,rfl,rfl,_⟩:=h5;exact ⟨_,_,_,_,rfl,rfl⟩
 obtain ⟨om,cm,ot,ct,rfl,rfl⟩:=KD;rcases h4 with ⟨x,hb,he,rfl,rfl,rfl⟩|⟨rs,ss,t,es,p',G,he,hq,lL,rfl,hr,hs,hv,rfl,rfl,rfl⟩
 ·exact ⟨x,s',⟨acc.map (fun m:Mem×List cy=>m.1),i,[],[],tx,[],p,om,ot,none,none,none,cm,ct,0,0,0⟩,[],_,_,he,h3,(fun h=>by rw[hb] at h;cases h),by simp only[bG.a,List.length_map,h1];rfl,rfl⟩
 ·obtain ⟨ar,cr,rfl⟩:=iL hr;obtain ⟨ah,ch,rfl⟩:=iL hs;obtain ⟨ae,ce,rfl⟩:=iL hv;obtain ⟨L,hL⟩:∃L,L=M++cz (A::B::rows++.res (aA kX 4 72 (.slice ar rs.length cr) rs)::.res (aA vV 6 78 (.slice ah ss.length ch) ss)::.res (aA qg 4 81 (.slice ae es.length ce) es)::G):=⟨_,rfl⟩;have mr:aA kX 4 72 (.slice ar rs.length cr) rs∈L:=by rw[hL];simp[cz,iI]
  have mh:aA vV 6 78 (.slice ah ss.length ch) ss∈L:=by rw[hL];simp[cz,iI]
  have me:aA qg 4 81 (.slice ae es.length ce) es∈L:=by rw[hL];simp[cz,iI]
  have mt:∀x∈gH,aA tC 10 96 (lN x) x.l∈L:=fun x hx=>by
   rw[hL,hM];exact List.mem_append.2 (.inl (List.mem_map.2 ⟨x,hx,rfl⟩))
  rw[<-hL];have pj:cU Tryz.prog (aC.star L) 51 6 om mC (acc.map (·.1))/\cU Tryz.prog (aC.star L) 52 1 ot lN gH:=by
   rcases i with _|i
   ·obtain rfl:=List.eq_nil_of_length_eq_zero h1;obtain rfl:=List.eq_nil_of_length_eq_zero h2;exact ⟨cU.nil,cU.nil⟩
   ·obtain ⟨bm,om',cm',bt,ot',ct',e1,e2,rfl⟩:=h5;injection e1 with e1;injection e2 with e2;subst e1 e2;exact ⟨QD (enc:=mL) (by rw[hL];simp[cz,iI]) Mm N2,QC (by rw[hL];simp[cz,iI]) OL⟩
  refine ⟨⟨acc,rs,ss,t,es,p'⟩,s',⟨acc.map (fun m:Mem×List cy=>m.1),i,rs,ss,⟨t.toArray⟩,es,p',om,ot,ar,ah,ae,cm,ct,cr,ch,ce⟩,gH,aC.star L,_,he,h3,fun _=>⟨⟨rfl,hq.symm,rfl,rfl,rfl,rfl,rfl⟩,⟨pj.1,xu (enc:=kX) mr hr qA Ol,xu (enc:=vV) mh hs CW Ow,xu (enc:=qg) me hv wS Nx⟩,⟨h2.symm,pj.2,fun x hx=>xu (enc:=tC) (c:=x.c) (mt x hx) (lL x hx) xU OJ,fun x hx k hk=>?_⟩,fun w S hw x hx=>?_⟩,by simp only[bG.a,List.length_map,h1],rfl⟩
  ·have h6:x.l∈acc.map (·.2):=by rw[hq];exact List.mem_map.2 ⟨x,hx,rfl⟩
   obtain ⟨m,hm,e⟩:=List.mem_map.1 h6;exact Yl he m hm k (by rw[e];exact hk)
  ·obtain ⟨S2,h2⟩:=mX hw (mt x hx);exact xq h2
def Ll(l:List bW):List UInt8:=l.flatMap fun x=>wB (eu x)
def Lw(l:List df):List UInt8:=l.flatMap fun x=>wB (ez x)
def Kq(l:List fS):List UInt8:=l.flatMap fun x=>wB (eh x)
def dI(ms:List Mem)(tk:List dW):List UInt8:=(ms.zip tk).flatMap fun p=>xm p.1 p.2.l
def FN(q:bG):List UInt8:=[q.past].flatMap (bs 8)++[(q.ms.length:Int)].flatMap (bs 2)
def preB(q:bG)(tk:List dW):List UInt8:=FN q++dI q.ms tk++cV 2 q.rs.length++Ll q.rs++cV 2 q.ss.length++Lw q.ss++[(q.s.length:Int)].flatMap (bs 2)++q.s++cV 4 q.es.length++Kq q.es
def lG(q:bG)(tk:List dW):List UInt8:=preB q tk++cG 4 (lH (preB q tk) % 4294967296)
structure He(q:bG)(tk:List dW):Prop where
 past:bw 8 q.past
 ml:q.ms.length<=60000
 tl:tk.length=q.ms.length
 ms:∀i (h:i<q.ms.length) (h2:i<tk.length),AP q.ms[i] tk[i].l
 rl:q.rs.length<=60000
 rs:∀x∈q.rs,pb (eu x)
 sl:q.ss.length<=60000
 ss:∀x∈q.ss,pb (ez x)
 xl:q.s.length<=60000
 el:q.es.length<=60000
 es:∀x∈q.es,pb (eh x)
theorem zE{n:Nat}(h:n<=60000):bw 2 (n:Int):=⟨by omega,by show (n:Int)<65536;omega,by omega⟩
theorem VK{n:Nat}(h:n<=60000):bw 4 (n:Int):=⟨by omega,by show (n:Int)<4294967296;omega,by omega⟩
theorem vG{ms:List Mem}{tk:List dW}{i:Nat}(h1:i<ms.length)(h2:i<tk.length):dI (ms.take (i+1)) (tk.take (i+1))=dI (ms.take i) (tk.take i)++xm ms[i] tk[i].l:=by
 unfold dI;rw[bq h1,bq h2,List.zip_append (by simp;omega),List.flatMap_append];simp
theorem ux{ms:List Mem}{tk:List dW}(hk:∀i (h:i<ms.length) (h2:i<tk.length),AP ms[i] tk[i].l):∀i,i<=ms.length->i<=tk.length->(dI (ms.take i) (tk.take i)).length<=i * 300
 | 0,_,_=>by simp[dI]
 | i+1,h1,h2=>by
   have h3:=ux hk i (by omega) (by omega);have h4:=QK (m:=ms[i]) (hk i (by omega) (by omega)).2.2.1;rw[vG (by omega) (by omega),List.length_append];omega
theorem TW{q:bG}{tk:List dW}{d0 d1 d2 d3 d4 d5 d6 d7:List UInt8}(h7:d7=d6++cV 4 q.es.length++q.es.flatMap fun x=>wB (eh x))(h6:d6=d5++q.s)(h5:d5=d4++[(q.s.length:Int)].flatMap (bs 2))(h4:d4=d3++cV 2 q.ss.length++q.ss.flatMap fun x=>wB (ez x))(h3:d3=d2++cV 2 q.rs.length++q.rs.flatMap fun x=>wB (eu x))(h2:d1++dI q.ms tk=d2)(h1:d1=d0++[(q.ms.length:Int)].flatMap (bs 2))(h0:d0=[]++[q.past].flatMap (bs 8)):d7=preB q tk:=by
 rw[h7,h6,h5,h4,h3,<-h2,h1,h0];unfold preB FN Ll Lw Kq;rw[List.nil_append]
theorem SC{R:aC}{q:bG}{tk:List dW}{v:Value}(hv:cS v ([]:List UInt8))(h:q.Rd R)(hk:q.Tk R tk)(ho:He q tk) :
  CP [] 28 [.ptr 0 0,.agg q.a] (kl v []++[.res R]) (fun u H'=>u=aQ/\∃v' d G,d=lG q tk/\cS v' d/\H'=kl v' d++.res R::G):=by
 have q0:∀y∈[q.past],bw 8 y:=fun y hy=>by rw[List.mem_singleton.1 hy];exact ho.past
 have q1:∀y∈[(q.ms.length:Int)],bw 2 y:=fun y hy=>by rw[List.mem_singleton.1 hy];exact zE ho.ml
 have tn:=ho.ml;have pV:=ho.tl;refine ag aa rfl ?_;refine eX.of rfl rfl ?_;refine aI.az fun F hF=>?_;repeat' ((conv=>whnf);first|with_reducible apply af<;>intro _|refine aM.drawn aa rfl rfl ?_|with_reducible refine And.intro (aN.mk ⟨_,rfl,rfl⟩) ?_|(refine (kx (k:=8) (xs:=[q.past]) (by assumption) (by decide) (by decide) q0 (by simp) (by simp)).use [0,1,4] rfl rfl ⟨⟨_,rfl,rfl⟩,ko,⟨_,rfl,rfl⟩,tU⟩ ?_;rintro _ _ ⟨rfl,v',d,G,hd,eJ,rfl⟩;have cY:=congrArg List.length hd;simp only[cN,bM,List.length_cons,List.length_nil] at cY;refine ⟨[],?_⟩)|(refine (kx (k:=2) (xs:=[(q.ms.length:Int)]) (by assumption) (by decide) (by decide) q1 (by simp) (by omega)).use [0,1,5] rfl rfl ⟨⟨_,rfl,rfl⟩,ko,⟨_,rfl,rfl⟩,tU⟩ ?_;rintro _ _ ⟨rfl,v',d,G,hd,eJ,rfl⟩;have cY:=congrArg List.length hd;simp only[cN,bM,List.length_cons,List.length_nil] at cY;refine ⟨[],?_⟩)|(show F _ _ _;subst hF;refine aI.az fun F hF=>?_)|(show F _ _ _;subst hF))
 refine aV aa rfl (fun s:Nh=>[(0,.ptr 0 0),(3,.ptr 3 0),(18,.lit (.slice q.om q.ms.length q.cm)),(19,iA q.ms.length),(20,iA (s.i:Nat))]) (fun s=>kl s.v (d++dI (q.ms.take s.i) (tk.take s.i))++[.res R,.cells q.a 28])
  (fun s=>s.i<=q.ms.length/\cS s.v (d++dI (q.ms.take s.i) (tk.take s.i))) (fun s=>q.ms.length - s.i) ⟨0,v'⟩ ⟨Nat.zero_le _,by simpa [dI] using eJ⟩ [0,1,2,3] ?_ ?_
 ·exact ⟨rfl,⟨rr,rr,rr,rr,rr,tU⟩,⟨⟨_,rfl,rfl⟩,⟨_,rfl,by simp only[List.take_zero,dI,List.zip_nil_left,List.flatMap_nil,List.append_nil];exact fun _ _ h=>h⟩,ko,⟨_,rfl,rfl⟩,tU⟩⟩
 ·rintro ⟨i,v⟩ ⟨g9,hv⟩;simp only[] at g9 hv;by_cases hi:i<q.ms.length
  ·have lp:i<tk.length:=by omega
   obtain ⟨a1,PT,gT⟩:=h.ms.at hi;obtain ⟨a2,FJ,cQ⟩:=hk.rd.at lp;have hlen:=ux ho.ms i g9 (by omega);have yv:=ho.ms i hi lp;have FO:=hk.el _ (List.getElem_mem lp);have Qd:=hk.nt;have oS:(d++dI (q.ms.take i) (tk.take i)).length<=600000000:=by rw[List.length_append];omega
   simp only[PT,FJ,Qd,bG.a];conv=>whnf
   refine af (fun _=>?_) (bT hi);repeat' ((conv=>whnf);first|with_reducible apply af<;>intro _|refine aM.tail aa 7 rfl (by kernel_rfl) ?_|refine cX.bC aa rfl rfl rfl rfl rfl lp ?_|refine cX.aR (i:=2) (v:=.lit (lN tk[i])) rfl (fun w S hR=>cQ w S hR i lp) rfl rfl ?_|refine cX.pure aa rfl ?_|refine cX.read aa rfl ?_|refine al.bC aa rfl rfl rfl rfl rfl hi ?_|refine al.aR (i:=2) (v:=.agg (mA q.ms[i])) rfl (fun w S hR=>gT w S hR i hi) rfl rfl ?_|(refine (SA hv FO yv oS rfl).use [0,1,2] rfl rfl ⟨⟨_,rfl,rfl⟩,ko,ko,tU⟩ ?_;rintro _ _ ⟨rfl,v',d',G,z6,eJ,rfl⟩;refine ⟨[],?_⟩))
   all_goals (try conv=>whnf)
   have e:d++dI (q.ms.take (i+1)) (tk.take (i+1))=d':=by rw[vG hi lp,z6,List.append_assoc]
   refine ⟨⟨i+1,v'⟩,[0,1,2,3],⟨⟨hi,by show cS v' (d++dI (q.ms.take (i+1)) (tk.take (i+1)));rw[e];exact eJ⟩,by show q.ms.length - (i+1)<q.ms.length - i;omega⟩,rfl,⟨rr,rr,rr,rr,⟨rfl,ax rfl (ak (by omega) (by omega))⟩,tU⟩,⟨⟨_,rfl,rfl⟩,⟨_,rfl,?_⟩,ko,⟨_,rfl,rfl⟩,tU⟩⟩;show ∀w S,(aA cB 1 da v' _).at_ w S->(aA cB 1 da v' (d++dI (q.ms.take (i+1)) (tk.take (i+1)))).at_ w S
   rw[e];exact fun _ _ h=>h
  ·obtain rfl:i=q.ms.length:=by omega
   have lL:tk.take q.ms.length=tk:=by rw[<-pV];exact List.take_length
   have hlen:=ux ho.ms q.ms.length (Nat.le_refl _) (by omega);rw[List.take_length,lL] at hv hlen;have q2:∀y∈[(q.s.length:Int)],bw 2 y:=fun y hy=>by rw[List.mem_singleton.1 hy];exact zE ho.xl
   have e0:d++dI (q.ms.take q.ms.length) (tk.take q.ms.length)=d++dI q.ms tk:=by rw[List.take_length,lL]
   obtain ⟨d1,sh⟩:∃d1,d++dI q.ms tk=d1:=⟨_,rfl⟩;have ZC:=congrArg List.length sh;rw[List.length_append] at ZC;have II:=ho.rl;have F4:=ho.sl;have F9:=ho.xl;have FO:=ho.el;simp only[e0,sh];rw[sh] at hv;simp only[bG.a];conv=>whnf
   refine af (cF hi) (fun _=>?_);repeat' ((conv=>whnf);first|with_reducible apply af<;>intro _|refine aM.drawn aa rfl rfl ?_|with_reducible refine And.intro (aN.mk ⟨_,rfl,rfl⟩) ?_|(refine (Ve (m:=q.cr) (by assumption) h.rs ho.rs (zE ho.rl) ho.rl (by omega)).use [0,1,2] rfl rfl ⟨⟨_,rfl,rfl⟩,ko,ko,tU⟩ ?_;rintro _ _ ⟨rfl,v',d,G,hd,eJ,rfl⟩;have cY:=congrArg List.length hd;rw[List.length_append,List.length_append,lB,fU (fun r=>CF r)] at cY;refine ⟨[],?_⟩)|(refine (Vf (m:=q.cs) (by assumption) h.ss ho.ss (zE ho.sl) ho.sl (by omega)).use [0,1,2] rfl rfl ⟨⟨_,rfl,rfl⟩,ko,ko,tU⟩ ?_;rintro _ _ ⟨rfl,v',d,G,hd,eJ,rfl⟩;have cY:=congrArg List.length hd;rw[List.length_append,List.length_append,lB,fU (fun r=>CX r)] at cY;refine ⟨[],?_⟩)|(refine (kx (k:=2) (xs:=[(q.s.length:Int)]) (by assumption) (by decide) (by decide) q2 (by simp) (by omega)).use [0,1,4] rfl rfl ⟨⟨_,rfl,rfl⟩,ko,⟨_,rfl,rfl⟩,tU⟩ ?_;rintro _ _ ⟨rfl,v',d,G,hd,eJ,rfl⟩;have cY:=congrArg List.length hd;simp only[cN,bM,List.length_cons,List.length_nil] at cY;refine ⟨[],?_⟩)|(obtain ⟨A5,n5,rfl⟩:=mc eJ (by intro e;have:=congrArg List.length e;simp only[List.length_nil] at this;omega))|(refine al.om (eH.SJ (l:=d) (tx:=q.s) (i:=1) (R1:=aB) (R':=fun v'=>aA cB 1 da v' (d++q.s)) rfl rfl rfl rfl mZ (fun v'=>pd) (by omega) fun v' eJ=>?_);obtain ⟨d,hd⟩:∃d',d'=d++q.s:=⟨_,rfl⟩;have cY:=congrArg List.length hd;rw[List.length_append] at cY;rw[<-hd] at eJ ⊢)|(refine (Vd (m:=q.ce) (by assumption) h.es ho.es (VK ho.el) ho.el (by omega)).use [0,1,2] rfl rfl ⟨⟨_,rfl,rfl⟩,ko,ko,tU⟩ ?_;rintro _ _ ⟨rfl,v',d,G,hd,eJ,rfl⟩;have cY:=congrArg List.length hd;rw[List.length_append,List.length_append,lB,fU (fun r=>By r)] at cY;refine ⟨[],?_⟩)|(refine (aaB (m:=n5) (by omega)).use [1] rfl rfl ⟨ko,tU⟩ ?_;rintro _ _ ⟨rfl,G,rfl⟩;refine ⟨[],?_⟩)|(refine (wC (k:=4) (n:=lH d % 4294967296) (v:=.slice (some A5) d.length n5) eJ (by decide) (by decide) (Nat.lt_trans (Nat.mod_lt _ (by decide)) (by decide)) (Nat.lt_of_lt_of_eq (Nat.mod_lt _ (by decide)) (by decide)) (by omega)).use [0,1] rfl rfl ⟨⟨_,rfl,rfl⟩,ko,tU⟩ ?_;rintro _ _ ⟨rfl,v',d2,G,Dx,hv2,rfl⟩;refine ⟨[],?_⟩)|(show F _ _ _;subst hF;refine aI.az fun F hF=>?_)|(show F _ _ _;subst hF))
   all_goals (try conv=>whnf)
   have Z0:d=preB q tk:=TW hd (by assumption) (by assumption) (by assumption) (by assumption) sh (by assumption) (by assumption);refine ⟨rfl,_,_,_,?_,by assumption,rfl⟩;rw[Dx,Z0];rfl
