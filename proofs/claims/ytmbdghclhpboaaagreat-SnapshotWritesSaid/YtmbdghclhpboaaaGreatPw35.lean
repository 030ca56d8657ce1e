/- Part of the proof: Snw3 Snw4 Rdr7 Snw5 SnE Stp Rdp Rdp2 Eql Dec Same Same2. Conditions: as each states. -/
import Derived.Test.YtmbdghclhpboaaaGreatPw34
set_option linter.all false
set_option maxRecDepth 100000
set_option maxHeartbeats 8000000
namespace Go.Proofs.YtmbdghclhpboaaaGreat
open Ev
def gx(k:dN):List UInt8:=bZ 8 k.bC++bZ 8 k.parent++wB (jG k)
def zQ(k:dN):Prop:=oB (jG k)/\k.bC<18446744073709551616/\k.parent<18446744073709551616
theorem Qc{k:dN}{v:Value}{l L:List UInt8}(hv:ep v l)(h:zQ k)(hl:l.length<=800000000)(hL:l++gx k=L):CP [] 163 [.ptr 0 0,.agg (vB k)] (jD v l) (gv L):=by
 cases hb:k.g.void with
 | true=>exact CG hv h.1 h.2.1 h.2.2 hb hl hL
 | false=>exact Cd hv h.1 h.2.1 h.2.2 hb hl hL
theorem oK(k:Nat)(x:Int):(bs k x).length=k:=bF k _
theorem wO(r:cw):(wB (dL r)).length=7:=by simp[wB,dL,oK]
theorem wV(s:eA):(wB (dM s)).length=11:=by simp[wB,dM,oK]
theorem vS(e:jU):(wB (dF e)).length=8:=by simp[wB,dF,oK]
theorem BX(k:dN):(gx k).length=31:=by simp[gx,wB,jG,oK,bF]
def cD(k n:Nat):List UInt8:=[(n:Int)].flatMap (bs k)
theorem jz(k n:Nat):(cD k n).length=k:=by simp[cD,oK]
theorem Sp{R:aH}{oa:Option Addr}{m:Nat}{xs:List cw}{v:Value}{l:List UInt8}(hv:ep v l)(hx:eG Tryz.prog R 72 4 oa Bz xs)(fw:∀x∈xs,oB (dL x))(hn:bm 2 (xs.length:Int))(LS:xs.length<=60000)(hl:l.length<=700000000) :
  CP [] 82 [.ptr 0 0,iA (2:Nat),.lit (.slice oa xs.length m),.func (.func 83) [.ptr 0 0] []] (jD v l++[.res R]) (fun u H'=>u=aP/\∃v' d G,d=l++cD 2 xs.length++xs.flatMap (fun x=>wB (dL x))/\ep v' d/\H'=jD v' d++.res R::G):=by
 have q0:∀x∈[(xs.length:Int)],bm 2 x:=fun x h=>by rw[List.mem_singleton.1 h];exact hn
 have hB:∀i,(l++cD 2 xs.length++(xs.take i).flatMap (fun x=>wB (dL x))).length<=800000000:=fun i=>by
  rw[List.length_append,List.length_append,jz,ee (fun r=>wO r),List.length_take];have:min i xs.length * 7<=60000 * 7:=Nat.mul_le_mul_right _ (by omega);omega
 refine ae U rfl ?_;repeat' ((conv=>whnf);first|with_reducible apply aa<;>intro _|(refine (jI (k:=2) (xs:=[(xs.length:Int)]) hv (by decide) (by decide) q0 (by simp) (by omega)).use [0,1,3] rfl rfl ⟨⟨_,rfl,rfl⟩,ko,⟨_,rfl,rfl⟩,tU⟩ ?_;rintro _ _ ⟨rfl,v',d,G,rfl,dU,rfl⟩;refine ⟨[],?_⟩))
 refine aW U rfl (fun s:Li=>[(3,.func (.func 83) [.ptr 0 0] []),(16,.lit (.slice oa xs.length m)),(17,iA xs.length),(18,iA (s.i:Nat))]) (fun s=>jD s.v (l++cD 2 xs.length++(xs.take s.i).flatMap (fun x=>wB (dL x)))++[.res R])
  (fun s=>s.i<=xs.length/\ep s.v (l++cD 2 xs.length++(xs.take s.i).flatMap (fun x=>wB (dL x)))) (fun s=>xs.length - s.i) ⟨0,v'⟩ ⟨Nat.zero_le _,by simpa [cD] using dU⟩ [0,1,2] ?_ ?_
 ·exact ⟨rfl,⟨rr,rr,rr,rr,tU⟩,⟨⟨_,rfl,rfl⟩,⟨_,rfl,by simp only[List.take_zero,List.flatMap_nil,List.append_nil];exact fun _ _ h=>h⟩,ko,tU⟩⟩
 ·rintro ⟨i,v⟩ ⟨j5,hv⟩;simp only[] at j5 hv;by_cases hi:i<xs.length
  ·obtain ⟨a,rfl,bq⟩:=hx.at hi;have EL:=fw _ (List.getElem_mem hi);have Cj:=hB i;conv=>whnf
   refine aa (fun _=>?_) (ck hi);repeat' ((conv=>whnf);first|with_reducible apply aa<;>intro _|refine ai.bJ U rfl rfl rfl rfl rfl hi ?_|refine ai.aR (i:=2) (v:=.agg (mF xs[i])) rfl (fun w S hR=>bq w S hR i hi) rfl rfl ?_|(refine (Qa hv EL Cj rfl).use [0,1] rfl rfl ⟨⟨_,rfl,rfl⟩,ko,tU⟩ ?_;rintro _ _ ⟨rfl,v',d,G,rfl,dU,rfl⟩;refine ⟨[],?_⟩))
   all_goals (try conv=>whnf)
   have e:l++cD 2 xs.length++(xs.take (i+1)).flatMap (fun x=>wB (dL x))=l++cD 2 xs.length++(xs.take i).flatMap (fun x=>wB (dL x))++wB (dL xs[i]):=by
    rw[bf hi,List.flatMap_append];simp[List.append_assoc]
   refine ⟨⟨i+1,v'⟩,[0,1,2],⟨⟨hi,by show ep v' (l++cD 2 xs.length++(xs.take (i+1)).flatMap (fun x=>wB (dL x)));rw[e];exact dU⟩,by show xs.length - (i+1)<xs.length - i;omega⟩,rfl,⟨rr,rr,rr,⟨rfl,aw rfl (aj (by dsimp only;omega) (by dsimp only;omega))⟩,tU⟩,⟨⟨_,rfl,rfl⟩,⟨_,rfl,?_⟩,ko,tU⟩⟩;show ∀w S,(aB cj 1 cK v' _).at_ w S->(aB cj 1 cK v' (l++cD 2 xs.length++(xs.take (i+1)).flatMap (fun x=>wB (dL x)))).at_ w S
   rw[e];exact fun _ _ h=>h
  ·obtain rfl:i=xs.length:=by omega
   rw[List.take_length] at hv;conv=>whnf
   refine aa (cI hi) (fun _=>?_);repeat' ((conv=>whnf);with_reducible apply aa<;>intro _)
   all_goals (try conv=>whnf)
   refine ⟨rfl,v,_,[],rfl,hv,?_⟩;show jD v (l++cD 2 xs.length++(xs.take xs.length).flatMap (fun x=>wB (dL x)))++[af.res R]=_
   rw[List.take_length]
theorem Sq{R:aH}{oa:Option Addr}{m:Nat}{xs:List eA}{v:Value}{l:List UInt8}(hv:ep v l)(hx:eG Tryz.prog R 78 6 oa MC xs)(fw:∀x∈xs,oB (dM x))(hn:bm 2 (xs.length:Int))(LS:xs.length<=60000)(hl:l.length<=700000000) :
  CP [] 84 [.ptr 0 0,iA (2:Nat),.lit (.slice oa xs.length m),.func (.func 85) [.ptr 0 0] []] (jD v l++[.res R]) (fun u H'=>u=aP/\∃v' d G,d=l++cD 2 xs.length++xs.flatMap (fun x=>wB (dM x))/\ep v' d/\H'=jD v' d++.res R::G):=by
 have q0:∀x∈[(xs.length:Int)],bm 2 x:=fun x h=>by rw[List.mem_singleton.1 h];exact hn
 have hB:∀i,(l++cD 2 xs.length++(xs.take i).flatMap (fun x=>wB (dM x))).length<=800000000:=fun i=>by
  rw[List.length_append,List.length_append,jz,ee (fun r=>wV r),List.length_take];have:min i xs.length * 11<=60000 * 11:=Nat.mul_le_mul_right _ (by omega);omega
 refine ae U rfl ?_;repeat' ((conv=>whnf);first|with_reducible apply aa<;>intro _|(refine (jI (k:=2) (xs:=[(xs.length:Int)]) hv (by decide) (by decide) q0 (by simp) (by omega)).use [0,1,3] rfl rfl ⟨⟨_,rfl,rfl⟩,ko,⟨_,rfl,rfl⟩,tU⟩ ?_;rintro _ _ ⟨rfl,v',d,G,rfl,dU,rfl⟩;refine ⟨[],?_⟩))
 refine aW U rfl (fun s:Li=>[(3,.func (.func 85) [.ptr 0 0] []),(16,.lit (.slice oa xs.length m)),(17,iA xs.length),(18,iA (s.i:Nat))]) (fun s=>jD s.v (l++cD 2 xs.length++(xs.take s.i).flatMap (fun x=>wB (dM x)))++[.res R])
  (fun s=>s.i<=xs.length/\ep s.v (l++cD 2 xs.length++(xs.take s.i).flatMap (fun x=>wB (dM x)))) (fun s=>xs.length - s.i) ⟨0,v'⟩ ⟨Nat.zero_le _,by simpa [cD] using dU⟩ [0,1,2] ?_ ?_
 ·exact ⟨rfl,⟨rr,rr,rr,rr,tU⟩,⟨⟨_,rfl,rfl⟩,⟨_,rfl,by simp only[List.take_zero,List.flatMap_nil,List.append_nil];exact fun _ _ h=>h⟩,ko,tU⟩⟩
 ·rintro ⟨i,v⟩ ⟨j5,hv⟩;simp only[] at j5 hv;by_cases hi:i<xs.length
  ·obtain ⟨a,rfl,bq⟩:=hx.at hi;have EL:=fw _ (List.getElem_mem hi);have Cj:=hB i;conv=>whnf
   refine aa (fun _=>?_) (ck hi);repeat' ((conv=>whnf);first|with_reducible apply aa<;>intro _|refine ai.bJ U rfl rfl rfl rfl rfl hi ?_|refine ai.aR (i:=2) (v:=.agg (sM xs[i])) rfl (fun w S hR=>bq w S hR i hi) rfl rfl ?_|(refine (Sv hv EL Cj rfl).use [0,1] rfl rfl ⟨⟨_,rfl,rfl⟩,ko,tU⟩ ?_;rintro _ _ ⟨rfl,v',d,G,rfl,dU,rfl⟩;refine ⟨[],?_⟩))
   all_goals (try conv=>whnf)
   have e:l++cD 2 xs.length++(xs.take (i+1)).flatMap (fun x=>wB (dM x))=l++cD 2 xs.length++(xs.take i).flatMap (fun x=>wB (dM x))++wB (dM xs[i]):=by
    rw[bf hi,List.flatMap_append];simp[List.append_assoc]
   refine ⟨⟨i+1,v'⟩,[0,1,2],⟨⟨hi,by show ep v' (l++cD 2 xs.length++(xs.take (i+1)).flatMap (fun x=>wB (dM x)));rw[e];exact dU⟩,by show xs.length - (i+1)<xs.length - i;omega⟩,rfl,⟨rr,rr,rr,⟨rfl,aw rfl (aj (by dsimp only;omega) (by dsimp only;omega))⟩,tU⟩,⟨⟨_,rfl,rfl⟩,⟨_,rfl,?_⟩,ko,tU⟩⟩;show ∀w S,(aB cj 1 cK v' _).at_ w S->(aB cj 1 cK v' (l++cD 2 xs.length++(xs.take (i+1)).flatMap (fun x=>wB (dM x)))).at_ w S
   rw[e];exact fun _ _ h=>h
  ·obtain rfl:i=xs.length:=by omega
   rw[List.take_length] at hv;conv=>whnf
   refine aa (cI hi) (fun _=>?_);repeat' ((conv=>whnf);with_reducible apply aa<;>intro _)
   all_goals (try conv=>whnf)
   refine ⟨rfl,v,_,[],rfl,hv,?_⟩;show jD v (l++cD 2 xs.length++(xs.take xs.length).flatMap (fun x=>wB (dM x)))++[af.res R]=_
   rw[List.take_length]
theorem So{R:aH}{oa:Option Addr}{m:Nat}{xs:List jU}{v:Value}{l:List UInt8}(hv:ep v l)(hx:eG Tryz.prog R 81 4 oa TG xs)(fw:∀x∈xs,oB (dF x))(hn:bm 4 (xs.length:Int))(LS:xs.length<=60000)(hl:l.length<=700000000) :
  CP [] 86 [.ptr 0 0,iA (4:Nat),.lit (.slice oa xs.length m),.func (.func 87) [.ptr 0 0] []] (jD v l++[.res R]) (fun u H'=>u=aP/\∃v' d G,d=l++cD 4 xs.length++xs.flatMap (fun x=>wB (dF x))/\ep v' d/\H'=jD v' d++.res R::G):=by
 have q0:∀x∈[(xs.length:Int)],bm 4 x:=fun x h=>by rw[List.mem_singleton.1 h];exact hn
 have hB:∀i,(l++cD 4 xs.length++(xs.take i).flatMap (fun x=>wB (dF x))).length<=800000000:=fun i=>by
  rw[List.length_append,List.length_append,jz,ee (fun r=>vS r),List.length_take];have:min i xs.length * 8<=60000 * 8:=Nat.mul_le_mul_right _ (by omega);omega
 refine ae U rfl ?_;repeat' ((conv=>whnf);first|with_reducible apply aa<;>intro _|(refine (jI (k:=4) (xs:=[(xs.length:Int)]) hv (by decide) (by decide) q0 (by simp) (by omega)).use [0,1,3] rfl rfl ⟨⟨_,rfl,rfl⟩,ko,⟨_,rfl,rfl⟩,tU⟩ ?_;rintro _ _ ⟨rfl,v',d,G,rfl,dU,rfl⟩;refine ⟨[],?_⟩))
 refine aW U rfl (fun s:Li=>[(3,.func (.func 87) [.ptr 0 0] []),(16,.lit (.slice oa xs.length m)),(17,iA xs.length),(18,iA (s.i:Nat))]) (fun s=>jD s.v (l++cD 4 xs.length++(xs.take s.i).flatMap (fun x=>wB (dF x)))++[.res R])
  (fun s=>s.i<=xs.length/\ep s.v (l++cD 4 xs.length++(xs.take s.i).flatMap (fun x=>wB (dF x)))) (fun s=>xs.length - s.i) ⟨0,v'⟩ ⟨Nat.zero_le _,by simpa [cD] using dU⟩ [0,1,2] ?_ ?_
 ·exact ⟨rfl,⟨rr,rr,rr,rr,tU⟩,⟨⟨_,rfl,rfl⟩,⟨_,rfl,by simp only[List.take_zero,List.flatMap_nil,List.append_nil];exact fun _ _ h=>h⟩,ko,tU⟩⟩
 ·rintro ⟨i,v⟩ ⟨j5,hv⟩;simp only[] at j5 hv;by_cases hi:i<xs.length
  ·obtain ⟨a,rfl,bq⟩:=hx.at hi;have EL:=fw _ (List.getElem_mem hi);have Cj:=hB i;conv=>whnf
   refine aa (fun _=>?_) (ck hi);repeat' ((conv=>whnf);first|with_reducible apply aa<;>intro _|refine ai.bJ U rfl rfl rfl rfl rfl hi ?_|refine ai.aR (i:=2) (v:=.agg (Gq xs[i])) rfl (fun w S hR=>bq w S hR i hi) rfl rfl ?_|(refine (St hv EL Cj rfl).use [0,1] rfl rfl ⟨⟨_,rfl,rfl⟩,ko,tU⟩ ?_;rintro _ _ ⟨rfl,v',d,G,rfl,dU,rfl⟩;refine ⟨[],?_⟩))
   all_goals (try conv=>whnf)
   have e:l++cD 4 xs.length++(xs.take (i+1)).flatMap (fun x=>wB (dF x))=l++cD 4 xs.length++(xs.take i).flatMap (fun x=>wB (dF x))++wB (dF xs[i]):=by
    rw[bf hi,List.flatMap_append];simp[List.append_assoc]
   refine ⟨⟨i+1,v'⟩,[0,1,2],⟨⟨hi,by show ep v' (l++cD 4 xs.length++(xs.take (i+1)).flatMap (fun x=>wB (dF x)));rw[e];exact dU⟩,by show xs.length - (i+1)<xs.length - i;omega⟩,rfl,⟨rr,rr,rr,⟨rfl,aw rfl (aj (by dsimp only;omega) (by dsimp only;omega))⟩,tU⟩,⟨⟨_,rfl,rfl⟩,⟨_,rfl,?_⟩,ko,tU⟩⟩;show ∀w S,(aB cj 1 cK v' _).at_ w S->(aB cj 1 cK v' (l++cD 4 xs.length++(xs.take (i+1)).flatMap (fun x=>wB (dF x)))).at_ w S
   rw[e];exact fun _ _ h=>h
  ·obtain rfl:i=xs.length:=by omega
   rw[List.take_length] at hv;conv=>whnf
   refine aa (cI hi) (fun _=>?_);repeat' ((conv=>whnf);with_reducible apply aa<;>intro _)
   all_goals (try conv=>whnf)
   refine ⟨rfl,v,_,[],rfl,hv,?_⟩;show jD v (l++cD 4 xs.length++(xs.take xs.length).flatMap (fun x=>wB (dF x)))++[af.res R]=_
   rw[List.take_length]
theorem Ss{R:aH}{oa:Option Addr}{m:Nat}{xs:List dN}{v:Value}{l:List UInt8}(hv:ep v l)(hx:eG Tryz.prog R 96 10 oa ux xs)(fw:∀x∈xs,zQ x)(hn:bm 1 (xs.length:Int))(LS:xs.length<=60000)(hl:l.length<=700000000) :
  CP [] 162 [.ptr 0 0,iA (1:Nat),.lit (.slice oa xs.length m),.func (.func 163) [.ptr 0 0] []] (jD v l++[.res R]) (fun u H'=>u=aP/\∃v' d G,d=l++cD 1 xs.length++xs.flatMap gx/\ep v' d/\H'=jD v' d++.res R::G):=by
 have q0:∀x∈[(xs.length:Int)],bm 1 x:=fun x h=>by rw[List.mem_singleton.1 h];exact hn
 have hB:∀i,(l++cD 1 xs.length++(xs.take i).flatMap gx).length<=800000000:=fun i=>by
  rw[List.length_append,List.length_append,jz,ee BX,List.length_take];have:min i xs.length * 31<=60000 * 31:=Nat.mul_le_mul_right _ (by omega);omega
 refine ae U rfl ?_;repeat' ((conv=>whnf);first|with_reducible apply aa<;>intro _|(refine (jI (k:=1) (xs:=[(xs.length:Int)]) hv (by decide) (by decide) q0 (by simp) (by omega)).use [0,1,3] rfl rfl ⟨⟨_,rfl,rfl⟩,ko,⟨_,rfl,rfl⟩,tU⟩ ?_;rintro _ _ ⟨rfl,v',d,G,rfl,dU,rfl⟩;refine ⟨[],?_⟩))
 refine aW U rfl (fun s:Li=>[(3,.func (.func 163) [.ptr 0 0] []),(16,.lit (.slice oa xs.length m)),(17,iA xs.length),(18,iA (s.i:Nat))]) (fun s=>jD s.v (l++cD 1 xs.length++(xs.take s.i).flatMap gx)++[.res R])
  (fun s=>s.i<=xs.length/\ep s.v (l++cD 1 xs.length++(xs.take s.i).flatMap gx)) (fun s=>xs.length - s.i) ⟨0,v'⟩ ⟨Nat.zero_le _,by simpa [cD] using dU⟩ [0,1,2] ?_ ?_
 ·exact ⟨rfl,⟨rr,rr,rr,rr,tU⟩,⟨⟨_,rfl,rfl⟩,⟨_,rfl,by simp only[List.take_zero,List.flatMap_nil,List.append_nil];exact fun _ _ h=>h⟩,ko,tU⟩⟩
 ·rintro ⟨i,v⟩ ⟨j5,hv⟩;simp only[] at j5 hv;by_cases hi:i<xs.length
  ·obtain ⟨a,rfl,bq⟩:=hx.at hi;have EL:=fw _ (List.getElem_mem hi);have Cj:=hB i;conv=>whnf
   refine aa (fun _=>?_) (ck hi);repeat' ((conv=>whnf);first|with_reducible apply aa<;>intro _|refine ai.bJ U rfl rfl rfl rfl rfl hi ?_|refine ai.aR (i:=2) (v:=.agg (vB xs[i])) rfl (fun w S hR=>bq w S hR i hi) rfl rfl ?_|(refine (Qc hv EL Cj rfl).use [0,1] rfl rfl ⟨⟨_,rfl,rfl⟩,ko,tU⟩ ?_;rintro _ _ ⟨rfl,v',d,G,rfl,dU,rfl⟩;refine ⟨[],?_⟩))
   all_goals (try conv=>whnf)
   have e:l++cD 1 xs.length++(xs.take (i+1)).flatMap gx=l++cD 1 xs.length++(xs.take i).flatMap gx++gx xs[i]:=by
    rw[bf hi,List.flatMap_append];simp[List.append_assoc]
   refine ⟨⟨i+1,v'⟩,[0,1,2],⟨⟨hi,by show ep v' (l++cD 1 xs.length++(xs.take (i+1)).flatMap gx);rw[e];exact dU⟩,by show xs.length - (i+1)<xs.length - i;omega⟩,rfl,⟨rr,rr,rr,⟨rfl,aw rfl (aj (by dsimp only;omega) (by dsimp only;omega))⟩,tU⟩,⟨⟨_,rfl,rfl⟩,⟨_,rfl,?_⟩,ko,tU⟩⟩;show ∀w S,(aB cj 1 cK v' _).at_ w S->(aB cj 1 cK v' (l++cD 1 xs.length++(xs.take (i+1)).flatMap gx)).at_ w S
   rw[e];exact fun _ _ h=>h
  ·obtain rfl:i=xs.length:=by omega
   rw[List.take_length] at hv;conv=>whnf
   refine aa (cI hi) (fun _=>?_);repeat' ((conv=>whnf);with_reducible apply aa<;>intro _)
   all_goals (try conv=>whnf)
   refine ⟨rfl,v,_,[],rfl,hv,?_⟩;show jD v (l++cD 1 xs.length++(xs.take xs.length).flatMap gx)++[af.res R]=_
   rw[List.take_length]
theorem S9{t:ax}{i:Nat}{n m:Int}{g:Nat->Nat}(h:t.get i=some (uA m))(e:m=n):t.get i=some ((uA n).cG g):=by rw[h,e];rfl
theorem eG.cells{α:Type}{P:Program}{E:Env}(hE:ch P E){R:aH}{ty:TypeId}{enc:α->Value}{l:List α}{oa:Option Addr}(j7:∃r,E.ty ty=some r/\bG r.bg=false)(h:l≠[]->∃b off,oa=some ⟨b,off,none⟩/\∀w S,R.at_ w S->gZ w b off (l.map enc)):eG P R ty 1 oa enc l:=fun aN=>by
 obtain ⟨b,off,rfl,hl⟩:=h aN;refine ⟨_,rfl,fun w S hw q hq=>?_⟩;obtain ⟨r,hr,lk⟩:=j7;rw[Addr.add_mid,Nat.mul_one];have hc:=hl w S hw q (enc l[q]) (by rw[List.getElem?_map,List.getElem?_eq_getElem hq];rfl);unfold loadVar;rw[Sem.run_bind,pQ hE hr w,lk];simp only[Result.andThen_ok,Bool.false_eq_true,if_false,run_load,hc]
theorem Kv(l:List UInt8):l.flatMap cj=l.map fun b=>Value.int .u8 (b.toNat:Int):=by
 induction l with
 | nil=>rfl
 | cons a l ih=>rw[List.flatMap_cons,ih];rfl
theorem FW:∃r,ev.ty cK=some r/\bG r.bg=false:=⟨_,rfl,rfl⟩
theorem E3{A:Option Addr}{m:Nat}{l:List UInt8}(hh:∃w S,(aB cj 1 cK (.slice A l.length m) l).at_ w S):eG Tryz.prog (aB cj 1 cK (.slice A l.length m) l) cK 1 A (fun b=>.int .u8 (b.toNat:Int)) l:=
 eG.cells U FW fun aN=>by
  obtain ⟨w0,S0,h0⟩:=hh;obtain ⟨b,off,rfl,_,_⟩:=j8 h0.1 aN;refine ⟨b,off,rfl,fun w S h=>?_⟩;obtain ⟨b',KO,e,_,hl⟩:=j8 h.1 aN;simp only[Option.some.injEq,Addr.mk.injEq] at e;obtain ⟨rfl,rfl,_⟩:=e;rw[<-Kv];exact hl
def kT(l:List UInt8):Nat:=(l.map UInt8.toNat).sum
theorem BT(l:List UInt8)(b:UInt8):kT (l++[b])=kT l+b.toNat:=by simp[kT]
theorem Iy:∀l:List UInt8,kT l<=255 * l.length
 | []=>by simp[kT]
 | a::l=>by
   have h:=Iy l;have:a.toNat<256:=a.toNat_lt;simp only[kT,List.map_cons,List.sum_cons,List.length_cons] at h ⊢;omega
theorem X1{A:Option Addr}{m:Nat}{l:List UInt8}(hl:l.length<=1000000000):CP [] 89 [.lit (.slice A l.length m)] [.res (aB cj 1 cK (.slice A l.length m) l)] (fun v H'=>v=uA ((kT l % 4294967296:Nat):Int)/\∃G,H'=.res (aB cj 1 cK (.slice A l.length m) l)::G):=by
 refine ag.nZ 0 rfl (fun w S h=>E3 ⟨w,S,h⟩) fun AR=>?_;refine ae U rfl ?_;conv=>whnf
 refine aW U rfl (fun k:Nat=>[(3,uA (kT (l.take k):Nat)),(6,.lit (.slice A l.length m)),(7,iA l.length),(8,iA (k:Nat))]) (fun _=>[.res (aB cj 1 cK (.slice A l.length m) l)]) (fun k=>k<=l.length) (fun k=>l.length - k) 0 (Nat.zero_le _) [0] ?_ ?_
 ·exact ⟨rfl,⟨rr,rr,rr,rr,tU⟩,⟨ko,tU⟩⟩
 ·intro k gT;by_cases hk:k<l.length
  ·obtain ⟨a,rfl,bq⟩:=AR.at hk;conv=>whnf
   refine aa (fun _=>?_) (ck hk);repeat' ((conv=>whnf);first|with_reducible apply aa<;>intro _|refine ai.bJ U rfl rfl rfl rfl rfl hk ?_|refine ai.aR (i:=0) (v:=.lit (.int .u8 (l[k].toNat:Int))) rfl (fun w S hR=>bq w S hR k hk) rfl rfl ?_)
   all_goals (try conv=>whnf)
   have h1:=BT (l.take k) l[k];rw[<-bf hk] at h1;have h2:=Iy (l.take k);rw[List.length_take] at h2;have h3:l[k].toNat<256:=l[k].toNat_lt;have e:IntKind.u64.wrap (↑(kT (l.take k))+IntKind.u64.wrap ↑l[k].toNat)=((kT (l.take (k+1)):Nat):Int):=by
    rw[IntKind.wrap_u64,IntKind.wrap_u64,h1];omega
   exact ⟨k+1,[0],⟨hk,by omega⟩,rfl,⟨⟨rfl,S9 rfl e⟩,⟨rfl,rfl⟩,⟨rfl,rfl⟩,⟨rfl,aw rfl (aj (by omega) (by omega))⟩,tU⟩,⟨ko,tU⟩⟩
  ·obtain rfl:k=l.length:=by omega
   conv=>whnf
   refine aa (cI hk) (fun _=>?_);repeat' ((conv=>whnf);first|with_reducible apply aa<;>intro _|refine ai.rem rfl rfl rfl ?_)
   all_goals (try conv=>whnf)
   rw[List.take_length];exact ⟨congrArg uA (by rw[Int.natCast_emod];exact Int.tmod_eq_emod_of_nonneg (by omega)),_,rfl⟩
def n9(m:Mem):List (Nat×List Int):=[(2,[m.user]),(1,[m.role,m.jq]),(2,[m.fH,m.k])]
def yD(m:Mem)(tk:List dN):List UInt8:=wB (n9 m)++bZ 8 m.cf.toNat++(cD 1 tk.length++tk.flatMap gx)
def zO(m:Mem)(tk:List dN):Prop:=oB (n9 m)/\(0<=m.cf/\m.cf<18446744073709551616)/\tk.length<=8/\∀k∈tk,zQ k
theorem OC{m:Mem}{tk:List dN}(h:tk.length<=8):(yD m tk).length<=300:=by
 have e:(wB (n9 m)).length=8:=by simp[wB,n9,oK]
 unfold yD;rw[List.length_append,List.length_append,List.length_append,e,bF,jz,ee BX];omega
theorem P9{R:aH}{m:Mem}{x:iL}{v:Value}{l L:List UInt8}(hv:ep v l)(hx:eG Tryz.prog R 96 10 x.oa ux x.l)(h:zO m x.l)(hl:l.length<=600000000)(hL:l++yD m x.l=L) :
  CP [] 81 [.ptr 0 0,.agg (mA m),.lit (BZ x)] (jD v l++[.res R]) (fun u H'=>u=aP/\∃v' d G,d=L/\ep v' d/\H'=jD v' d++.res R::G):=by
 have q0:∀y∈[m.user],bm 2 y:=h.1 (2,_) (by simp[n9]);have q1:∀y∈[m.role,m.jq],bm 1 y:=h.1 (1,_) (by simp[n9]);have q2:∀y∈[m.fH,m.k],bm 2 y:=h.1 (2,[m.fH,m.k]) (by simp[n9]);have q3:m.cf.toNat<18446744073709551616:=by have:=h.2.1;omega
 have q4:((m.cf.toNat:Nat):Int)=m.cf:=Int.toNat_of_nonneg h.2.1.1;have q5:bm 1 (x.l.length:Int):=⟨by omega,by have:=h.2.2.1;show (x.l.length:Int)<256;omega,by have:=h.2.2.1;omega⟩;have h8:=h.2.2.1;refine ae U rfl ?_;refine eP.of rfl rfl ?_;refine aF.au fun F hF=>?_;repeat' ((conv=>whnf);first|with_reducible apply aa<;>intro _|(refine (jI (k:=2) (xs:=[m.user]) (by assumption) (by decide) (by decide) q0 (by simp) (by clear q3;omega)).use [0,1,4] rfl rfl ⟨⟨_,rfl,rfl⟩,ko,⟨_,rfl,rfl⟩,tU⟩ ?_;rintro _ _ ⟨rfl,v',d,G,hd,dU,rfl⟩;have cF:=congrArg List.length hd;simp only[cu,bE,List.length_cons,List.length_nil] at cF;refine ⟨[],?_⟩)|(refine (jI (k:=1) (xs:=[m.role,m.jq]) (by assumption) (by decide) (by decide) q1 (by simp) (by clear q3;omega)).use [0,1,5] rfl rfl ⟨⟨_,rfl,rfl⟩,ko,⟨_,rfl,rfl⟩,tU⟩ ?_;rintro _ _ ⟨rfl,v',d,G,hd,dU,rfl⟩;have cF:=congrArg List.length hd;simp only[cu,bE,List.length_cons,List.length_nil] at cF;refine ⟨[],?_⟩)|(refine (jI (k:=2) (xs:=[m.fH,m.k]) (by assumption) (by decide) (by decide) q2 (by simp) (by clear q3;omega)).use [0,1,6] rfl rfl ⟨⟨_,rfl,rfl⟩,ko,⟨_,rfl,rfl⟩,tU⟩ ?_;rintro _ _ ⟨rfl,v',d,G,hd,dU,rfl⟩;have cF:=congrArg List.length hd;simp only[cu,bE,List.length_cons,List.length_nil] at cF;refine ⟨[],?_⟩)|(refine (vC (k:=8) (n:=m.cf.toNat) (by assumption) (by decide) (by decide) q3 (yM q3) (by clear q3;omega)).use [0,1] (by rw[q4];rfl) rfl ⟨⟨_,rfl,rfl⟩,ko,tU⟩ ?_;rintro _ _ ⟨rfl,v',d,G,hd,dU,rfl⟩;have cF:=congrArg List.length hd;simp only[cu,bE,List.length_cons,List.length_nil] at cF;refine ⟨[],?_⟩)|(refine (Ss (m:=x.c) (by assumption) hx h.2.2.2 q5 (by clear q3;omega) (by clear q3;omega)).use [0,1,2] rfl rfl ⟨⟨_,rfl,rfl⟩,ko,ko,tU⟩ ?_;rintro _ _ ⟨rfl,v',d,G,hd,dU,rfl⟩;refine ⟨[],?_⟩)|(subst hF;refine aF.au fun F hF=>?_)|subst hF)
 all_goals (try conv=>whnf)
 refine ⟨rfl,_,_,_,?_,by assumption,rfl⟩;rw[<-hL];clear hL;subst_vars;simp[yD,wB,n9,List.append_assoc]
def Nb(k:dN):Prop:=k.bC<18446744073709551616/\k.parent<18446744073709551616
theorem L4:∃r,ev.ty 51=some r/\r.info.size=6/\bG r.bg=true:=⟨_,rfl,rfl,rfl⟩
theorem Mu:∃r,ev.ty 72=some r/\r.info.size=4/\bG r.bg=true:=⟨_,rfl,rfl,rfl⟩
theorem MD:∃r,ev.ty 78=some r/\r.info.size=6/\bG r.bg=true:=⟨_,rfl,rfl,rfl⟩
theorem Lx:∃r,ev.ty 81=some r/\r.info.size=4/\bG r.bg=true:=⟨_,rfl,rfl,rfl⟩
theorem MQ:∃r,ev.ty 96=some r/\r.info.size=10/\bG r.bg=true:=⟨_,rfl,rfl,rfl⟩
theorem MS:∃r,ev.ty 52=some r/\bG r.bg=false:=⟨_,rfl,rfl⟩
def E9(l:List cw):List UInt8:=l.flatMap fun x=>wB (dL x)
def Fj(l:List eA):List UInt8:=l.flatMap fun x=>wB (dM x)
def Eu(l:List jU):List UInt8:=l.flatMap fun x=>wB (dF x)
def dw(ms:List Mem)(tk:List iL):List UInt8:=(ms.zip tk).flatMap fun p=>yD p.1 p.2.l
def AK(q:bM):List UInt8:=[q.past].flatMap (bs 8)++[(q.ms.length:Int)].flatMap (bs 2)
def preB(q:bM)(tk:List iL):List UInt8:=AK q++dw q.ms tk++cD 2 q.rs.length++E9 q.rs++cD 2 q.ss.length++Fj q.ss++[(q.s.length:Int)].flatMap (bs 2)++q.s++cD 4 q.es.length++Eu q.es
def oX(q:bM)(tk:List iL):List UInt8:=preB q tk++bZ 4 (kT (preB q tk) % 4294967296)
structure CL(q:bM)(tk:List iL):Prop where
 past:bm 8 q.past
 ml:q.ms.length<=60000
 tl:tk.length=q.ms.length
 ms:∀i (h:i<q.ms.length) (h2:i<tk.length),zO q.ms[i] tk[i].l
 rl:q.rs.length<=60000
 rs:∀x∈q.rs,oB (dL x)
 sl:q.ss.length<=60000
 ss:∀x∈q.ss,oB (dM x)
 xl:q.s.length<=60000
 el:q.es.length<=60000
 es:∀x∈q.es,oB (dF x)
theorem yF{n:Nat}(h:n<=60000):bm 2 (n:Int):=⟨by omega,by show (n:Int)<65536;omega,by omega⟩
theorem S4{n:Nat}(h:n<=60000):bm 4 (n:Int):=⟨by omega,by show (n:Int)<4294967296;omega,by omega⟩
theorem u7{ms:List Mem}{tk:List iL}{i:Nat}(h1:i<ms.length)(h2:i<tk.length):dw (ms.take (i+1)) (tk.take (i+1))=dw (ms.take i) (tk.take i)++yD ms[i] tk[i].l:=by
 unfold dw;rw[bf h1,bf h2,List.zip_append (by simp;omega),List.flatMap_append];simp
theorem pI{ms:List Mem}{tk:List iL}(hk:∀i (h:i<ms.length) (h2:i<tk.length),zO ms[i] tk[i].l):∀i,i<=ms.length->i<=tk.length->(dw (ms.take i) (tk.take i)).length<=i * 300
 | 0,_,_=>by simp[dw]
 | i+1,h1,h2=>by
   have h3:=pI hk i (by omega) (by omega);have h4:=OC (m:=ms[i]) (hk i (by omega) (by omega)).2.2.1;rw[u7 (by omega) (by omega),List.length_append];omega
theorem Rp{q:bM}{tk:List iL}{d0 d1 d2 d3 d4 d5 d6 d7:List UInt8}(h7:d7=d6++cD 4 q.es.length++q.es.flatMap fun x=>wB (dF x))(h6:d6=d5++q.s)(h5:d5=d4++[(q.s.length:Int)].flatMap (bs 2))(h4:d4=d3++cD 2 q.ss.length++q.ss.flatMap fun x=>wB (dM x))(h3:d3=d2++cD 2 q.rs.length++q.rs.flatMap fun x=>wB (dL x))(h2:d1++dw q.ms tk=d2)(h1:d1=d0++[(q.ms.length:Int)].flatMap (bs 2))(h0:d0=[]++[q.past].flatMap (bs 8)):d7=preB q tk:=by
 rw[h7,h6,h5,h4,h3,<-h2,h1,h0];unfold preB AK E9 Fj Eu;rw[List.nil_append]
theorem Qb{R:aH}{q:bM}{tk:List iL}{v:Value}(hv:ep v ([]:List UInt8))(h:q.Rd R)(hk:q.Tk R tk)(ho:CL q tk) :
  CP [] 28 [.ptr 0 0,.agg q.a] (jD v []++[.res R]) (fun u H'=>u=aP/\∃v' d G,d=oX q tk/\ep v' d/\H'=jD v' d++.res R::G):=by
 have q0:∀y∈[q.past],bm 8 y:=fun y hy=>by rw[List.mem_singleton.1 hy];exact ho.past
 have q1:∀y∈[(q.ms.length:Int)],bm 2 y:=fun y hy=>by rw[List.mem_singleton.1 hy];exact yF ho.ml
 have sc:=ho.ml;have wq:=ho.tl;refine ae U rfl ?_;refine eP.of rfl rfl ?_;refine aF.au fun F hF=>?_;repeat' ((conv=>whnf);first|with_reducible apply aa<;>intro _|refine aJ.drawn U rfl rfl ?_|with_reducible refine And.intro (aG.mk ⟨_,rfl,rfl⟩) ?_|(refine (jI (k:=8) (xs:=[q.past]) (by assumption) (by decide) (by decide) q0 (by simp) (by simp)).use [0,1,4] rfl rfl ⟨⟨_,rfl,rfl⟩,ko,⟨_,rfl,rfl⟩,tU⟩ ?_;rintro _ _ ⟨rfl,v',d,G,hd,dU,rfl⟩;have cF:=congrArg List.length hd;simp only[cu,bE,List.length_cons,List.length_nil] at cF;refine ⟨[],?_⟩)|(refine (jI (k:=2) (xs:=[(q.ms.length:Int)]) (by assumption) (by decide) (by decide) q1 (by simp) (by omega)).use [0,1,5] rfl rfl ⟨⟨_,rfl,rfl⟩,ko,⟨_,rfl,rfl⟩,tU⟩ ?_;rintro _ _ ⟨rfl,v',d,G,hd,dU,rfl⟩;have cF:=congrArg List.length hd;simp only[cu,bE,List.length_cons,List.length_nil] at cF;refine ⟨[],?_⟩)|(show F _ _ _;subst hF;refine aF.au fun F hF=>?_)|(show F _ _ _;subst hF))
 refine aW U rfl (fun s:Li=>[(0,.ptr 0 0),(3,.ptr 3 0),(18,.lit (.slice q.om q.ms.length q.cm)),(19,iA q.ms.length),(20,iA (s.i:Nat))]) (fun s=>jD s.v (d++dw (q.ms.take s.i) (tk.take s.i))++[.res R,.cells q.a 28])
  (fun s=>s.i<=q.ms.length/\ep s.v (d++dw (q.ms.take s.i) (tk.take s.i))) (fun s=>q.ms.length - s.i) ⟨0,v'⟩ ⟨Nat.zero_le _,by simpa [dw] using dU⟩ [0,1,2,3] ?_ ?_
 ·exact ⟨rfl,⟨rr,rr,rr,rr,rr,tU⟩,⟨⟨_,rfl,rfl⟩,⟨_,rfl,by simp only[List.take_zero,dw,List.zip_nil_left,List.flatMap_nil,List.append_nil];exact fun _ _ h=>h⟩,ko,⟨_,rfl,rfl⟩,tU⟩⟩
 ·rintro ⟨i,v⟩ ⟨j5,hv⟩;simp only[] at j5 hv;by_cases hi:i<q.ms.length
  ·have kC:i<tk.length:=by omega
   obtain ⟨a1,NN,nX⟩:=h.ms.at hi;obtain ⟨a2,EB,dK⟩:=hk.rd.at kC;have hlen:=pI ho.ms i j5 (by omega);have xz:=ho.ms i hi kC;have EG:=hk.el _ (List.getElem_mem kC);have UO:=hk.nt;have o9:(d++dw (q.ms.take i) (tk.take i)).length<=600000000:=by rw[List.length_append];omega
   simp only[NN,EB,UO,bM.a];conv=>whnf
   refine aa (fun _=>?_) (ck hi);repeat' ((conv=>whnf);first|with_reducible apply aa<;>intro _|refine aJ.tail U 7 rfl (by kernel_rfl) ?_|refine g9.bJ U rfl rfl rfl rfl rfl kC ?_|refine g9.aR (i:=2) (v:=.lit (BZ tk[i])) rfl (fun w S hR=>dK w S hR i kC) rfl rfl ?_|refine g9.pure U rfl ?_|refine g9.read U rfl ?_|refine ai.bJ U rfl rfl rfl rfl rfl hi ?_|refine ai.aR (i:=2) (v:=.agg (mA q.ms[i])) rfl (fun w S hR=>nX w S hR i hi) rfl rfl ?_|(refine (P9 hv EG xz o9 rfl).use [0,1,2] rfl rfl ⟨⟨_,rfl,rfl⟩,ko,ko,tU⟩ ?_;rintro _ _ ⟨rfl,v',d',G,y9,dU,rfl⟩;refine ⟨[],?_⟩))
   all_goals (try conv=>whnf)
   have e:d++dw (q.ms.take (i+1)) (tk.take (i+1))=d':=by rw[u7 hi kC,y9,List.append_assoc]
   refine ⟨⟨i+1,v'⟩,[0,1,2,3],⟨⟨hi,by show ep v' (d++dw (q.ms.take (i+1)) (tk.take (i+1)));rw[e];exact dU⟩,by show q.ms.length - (i+1)<q.ms.length - i;omega⟩,rfl,⟨rr,rr,rr,rr,⟨rfl,aw rfl (aj (by omega) (by omega))⟩,tU⟩,⟨⟨_,rfl,rfl⟩,⟨_,rfl,?_⟩,ko,⟨_,rfl,rfl⟩,tU⟩⟩;show ∀w S,(aB cj 1 cK v' _).at_ w S->(aB cj 1 cK v' (d++dw (q.ms.take (i+1)) (tk.take (i+1)))).at_ w S
   rw[e];exact fun _ _ h=>h
  ·obtain rfl:i=q.ms.length:=by omega
   have Cv:tk.take q.ms.length=tk:=by rw[<-wq];exact List.take_length
   have hlen:=pI ho.ms q.ms.length (Nat.le_refl _) (by omega);rw[List.take_length,Cv] at hv hlen;have q2:∀y∈[(q.s.length:Int)],bm 2 y:=fun y hy=>by rw[List.mem_singleton.1 hy];exact yF ho.xl
   have e0:d++dw (q.ms.take q.ms.length) (tk.take q.ms.length)=d++dw q.ms tk:=by rw[List.take_length,Cv]
   obtain ⟨d1,o6⟩:∃d1,d++dw q.ms tk=d1:=⟨_,rfl⟩;have WU:=congrArg List.length o6;rw[List.length_append] at WU;have GY:=ho.rl;have EP:=ho.sl;have Ol:=ho.xl;have EG:=ho.el;simp only[e0,o6];rw[o6] at hv;simp only[bM.a];conv=>whnf
   refine aa (cI hi) (fun _=>?_);repeat' ((conv=>whnf);first|with_reducible apply aa<;>intro _|refine aJ.drawn U rfl rfl ?_|with_reducible refine And.intro (aG.mk ⟨_,rfl,rfl⟩) ?_|(refine (Sp (m:=q.cr) (by assumption) h.rs ho.rs (yF ho.rl) ho.rl (by omega)).use [0,1,2] rfl rfl ⟨⟨_,rfl,rfl⟩,ko,ko,tU⟩ ?_;rintro _ _ ⟨rfl,v',d,G,hd,dU,rfl⟩;have cF:=congrArg List.length hd;rw[List.length_append,List.length_append,jz,ee (fun r=>wO r)] at cF;refine ⟨[],?_⟩)|(refine (Sq (m:=q.cs) (by assumption) h.ss ho.ss (yF ho.sl) ho.sl (by omega)).use [0,1,2] rfl rfl ⟨⟨_,rfl,rfl⟩,ko,ko,tU⟩ ?_;rintro _ _ ⟨rfl,v',d,G,hd,dU,rfl⟩;have cF:=congrArg List.length hd;rw[List.length_append,List.length_append,jz,ee (fun r=>wV r)] at cF;refine ⟨[],?_⟩)|(refine (jI (k:=2) (xs:=[(q.s.length:Int)]) (by assumption) (by decide) (by decide) q2 (by simp) (by omega)).use [0,1,4] rfl rfl ⟨⟨_,rfl,rfl⟩,ko,⟨_,rfl,rfl⟩,tU⟩ ?_;rintro _ _ ⟨rfl,v',d,G,hd,dU,rfl⟩;have cF:=congrArg List.length hd;simp only[cu,bE,List.length_cons,List.length_nil] at cF;refine ⟨[],?_⟩)|(obtain ⟨A5,n5,rfl⟩:=lG dU (by intro e;have:=congrArg List.length e;simp only[List.length_nil] at this;omega))|(refine ai.om (eU.Qj (l:=d) (tx:=q.s) (i:=1) (R1:=aA) (R':=fun v'=>aB cj 1 cK v' (d++q.s)) rfl rfl rfl rfl me (fun v'=>oD) (by omega) fun v' dU=>?_);obtain ⟨d,hd⟩:∃d',d'=d++q.s:=⟨_,rfl⟩;have cF:=congrArg List.length hd;rw[List.length_append] at cF;rw[<-hd] at dU ⊢)|(refine (So (m:=q.ce) (by assumption) h.es ho.es (S4 ho.el) ho.el (by omega)).use [0,1,2] rfl rfl ⟨⟨_,rfl,rfl⟩,ko,ko,tU⟩ ?_;rintro _ _ ⟨rfl,v',d,G,hd,dU,rfl⟩;have cF:=congrArg List.length hd;rw[List.length_append,List.length_append,jz,ee (fun r=>vS r)] at cF;refine ⟨[],?_⟩)|(refine (X1 (m:=n5) (by omega)).use [1] rfl rfl ⟨ko,tU⟩ ?_;rintro _ _ ⟨rfl,G,rfl⟩;refine ⟨[],?_⟩)|(refine (vC (k:=4) (n:=kT d % 4294967296) (v:=.slice (some A5) d.length n5) dU (by decide) (by decide) (Nat.lt_trans (Nat.mod_lt _ (by decide)) (by decide)) (Nat.lt_of_lt_of_eq (Nat.mod_lt _ (by decide)) (by decide)) (by omega)).use [0,1] rfl rfl ⟨⟨_,rfl,rfl⟩,ko,tU⟩ ?_;rintro _ _ ⟨rfl,v',d2,G,Co,hv2,rfl⟩;refine ⟨[],?_⟩)|(show F _ _ _;subst hF;refine aF.au fun F hF=>?_)|(show F _ _ _;subst hF))
   all_goals (try conv=>whnf)
   have Xq:d=preB q tk:=Rp hd (by assumption) (by assumption) (by assumption) (by assumption) o6 (by assumption) (by assumption);refine ⟨rfl,_,_,_,?_,by assumption,rfl⟩;rw[Co,Xq];rfl
theorem VE{R:aH}{q:bM}{tk:List iL}(h:q.Rd R)(hk:q.Tk R tk)(h0:q.ms.length<=60000)(h1:q.rs.length<=60000)(h2:q.ss.length<=60000)(h3:q.es.length<=60000):CP [] 27 [.agg q.a] [.res R] (fun v H'=>v=bA (fE q tk)/\∃G,H'=.res R::G):=by
 refine ae U rfl ?_;repeat' ((conv=>whnf);first|with_reducible apply aa<;>intro _|(refine (MR h hk h0 h1 h2 h3).use [0] rfl rfl ⟨ko,tU⟩ ?_;rintro _ _ (⟨hi,rfl,t,G,_,rfl⟩|⟨hi,rfl,G,rfl⟩);refine ⟨[2,3,4,5,6,7,8,9,10],?_⟩;rotate_left;refine ⟨[],?_⟩;rotate_left))
 all_goals (try conv=>whnf)
 all_goals rw[hi]
 all_goals exact ⟨rfl,_,rfl⟩
def MZ(R:aH)(q:bM)(tk:List iL)(v:AV)(H':List af):Prop:=
 (fE q tk=false/\v=.tuple [.lit aO,iA 1]/\∃G,H'=.res R::G) \/
 (fE q tk=true/\65536<(oX q tk).length/\v=.tuple [.lit aO,iA 2]/\∃G,H'=.res R::G) \/
 (fE q tk=true/\(oX q tk).length<=65536/\∃A n,v=.tuple [.lit (.slice (some A) (oX q tk).length n),iA 0]/\∃G1 G2 G,H'=.res R::G1::G2::.res (aB cj 1 cK (.slice (some A) (oX q tk).length n) (oX q tk))::G)
theorem Sa{q:bM}{tk:List iL}:oX q tk≠[]:=fun e=>by
 have:=congrArg List.length e;unfold oX at this;rw[List.length_append,bF] at this;simp only[List.length_nil] at this;omega
theorem Hv(w:World):(aB cj 1 cK aO ([]:List UInt8)).at_ w fun _=>False:=⟨Own.nil,fun b=>by simp[aO,Value.ownBlock]⟩
theorem PL{R:aH}{q:bM}{tk:List iL}(h:q.Rd R)(hk:q.Tk R tk)(h0:q.ms.length<=60000)(h1:q.rs.length<=60000)(h2:q.ss.length<=60000)(h3:q.es.length<=60000)(ho:fE q tk=true->CL q tk):CP [] 11 [.agg q.a] [.res R] (MZ R q tk):=by
 refine ae U rfl ?_;repeat' ((conv=>whnf);first|with_reducible apply aa<;>intro _|(refine (VE h hk h0 h1 h2 h3).use [0] rfl rfl ⟨ko,tU⟩ ?_;rintro _ _ ⟨rfl,G,rfl⟩;refine ⟨[],?_⟩)|(refine ag.pre (fP.more (R:=aB cj 1 cK aO []) rfl (bc.jn Hv _)) ?_;refine (Qb (v:=aO) (.inl ⟨rfl,rfl⟩) h hk (ho (by assumption))).use [2,3,0] rfl rfl ⟨⟨_,rfl,rfl⟩,ko,ko,tU⟩ ?_;rintro _ _ ⟨rfl,v',d,G,hd,dU,rfl⟩;refine ⟨[],?_⟩;obtain ⟨A,n,rfl⟩:=lG dU (by rw[hd];exact Sa)))
 all_goals (try conv=>whnf)
 ·rename_i hx;rw[<-hd];exact .inr (.inl ⟨by assumption,by have:=of_decide_eq_true hx;omega,rfl,_,rfl⟩)
 ·rename_i hx;rw[<-hd];exact .inr (.inr ⟨by assumption,by have:=of_decide_eq_false hx;omega,A,n,rfl,_,_,_,rfl⟩)
 ·exact .inl ⟨by assumption,rfl,_,rfl⟩
theorem vN{m:Mem}(h:m.da=true):(0<=m.user/\m.user<=65535)/\(0<=m.role/\m.role<=7)/\(0<=m.jq/\m.jq<=7)/\(0<=m.fH/\m.fH<=65535)/\(0<=m.k/\m.k<=65535):=by
 unfold Mem.da at h;split at h
 ·have h:=of_decide_eq_true h;omega
 ·rw[Bool.and_eq_true,Bool.or_eq_true] at h;obtain ⟨h1,h2⟩:=h;unfold Mem.right at h1;have h1:=of_decide_eq_true h1;simp only[] at h1;have h3:0<=m.k/\m.k<=65535:=by
   rcases h2 with h2|h2<;>have:=of_decide_eq_true h2<;>omega
  omega
theorem wZ:∀(l acc:List dN),(dE l acc).isSome=true->∀k∈l,k.g.right=true
 | [],_,_,k,hk=>by cases hk
 | a::l,acc,h,k,hk=>by
   unfold dE at h;split at h
   ·cases h
   ·rename_i hc;rcases List.mem_cons.1 hk with rfl|hk
    ·simp only[Bool.or_eq_true,not_or,Bool.not_eq_true'] at hc;have:=hc.1.1.1;simpa using this
    ·exact wZ l _ h k hk
theorem Mw{g:yZ}(h:g.right=true):(0<=g.ops/\g.ops<=31)/\(0<=g.bO/\g.bO<=16)/\(0<=g.mY/\g.mY<=4294967295)/\(0<=g.x0/\g.x0<=65535)/\(0<=g.y0/\g.y0<=65535)/\(0<=g.x1/\g.x1<=65535)/\(0<=g.y1/\g.y1<=65535):=by
 unfold yZ.right at h;rw[Bool.and_eq_true] at h;obtain ⟨h1,h2⟩:=h;have h1:=of_decide_eq_true h1;split at h2
 ·have h2:=of_decide_eq_true h2;omega
 ·unfold oo at h2;have h2:=of_decide_eq_true h2;omega
theorem Zz:(256:Int) ^ 1=256:=rfl
theorem ZA:(256:Int) ^ 2=65536:=rfl
theorem ZB:(256:Int) ^ 4=4294967296:=rfl
theorem ZC:(256:Int) ^ 8=18446744073709551616:=rfl
theorem qo{x:Int}(h:0<=x/\x<=65535):bm 2 x:=⟨h.1,by rw[ZA];omega,by omega⟩
theorem qn{x:Int}(h:0<=x/\x<=255):bm 1 x:=⟨h.1,by rw[Zz];omega,by omega⟩
theorem KM{x:Int}(h:0<=x/\x<=4294967295):bm 4 x:=⟨h.1,by rw[ZB];omega,by omega⟩
theorem MO{k:dN}(h:k.g.right=true)(hs:k.bC<18446744073709551616/\k.parent<18446744073709551616):zQ k:=by
 obtain ⟨h1,h2,h3,h4,h5,h6,h7⟩:=Mw h;refine ⟨fun p hp x hx=>?_,hs⟩;simp only[jG,List.mem_cons,List.not_mem_nil,or_false] at hp;rcases hp with rfl|rfl|rfl<;>simp only[List.mem_cons,List.not_mem_nil,or_false] at hx
 ·rcases hx with rfl|rfl|rfl
  ·exact qn (by omega)
  ·exact qn (by omega)
  ·refine qn ?_;unfold ph;split<;>omega
 ·rcases hx with rfl|rfl|rfl|rfl<;>exact qo (by omega)
 ·subst hx;exact KM h3
theorem IF{s:List UInt8}(h:(dp s).2.err=0):s.length<=512:=by
 rcases Nat.lt_or_ge 512 s.length with h1|h1
 ·unfold dp at h;rw[if_pos h1] at h;cases h
 ·exact h1
theorem wN{s:List UInt8}(h:(gE s).2.err=0):s.length<=512:=by
 unfold gE at h;split at h
 ·rename_i h1;unfold parse at h1;split at h1
  ·rename_i h2;exact absurd h1 h2
  ·rename_i h2;exact IF (by omega)
 ·rename_i h1;exact absurd h h1
theorem PV{R:aH}{q:bM}{tk:List iL}(hk:q.Tk R tk)(h0:q.ms.length<=60000)(h1:q.rs.length<=60000)(h2:q.ss.length<=60000)(h3:q.es.length<=60000)(hA:∀m∈q.ms,0<=m.cf/\m.cf<18446744073709551616)(h:fE q tk=true):CL q tk:=by
 unfold fE at h;simp only[Bool.and_eq_true] at h;obtain ⟨hs,⟨hr,_⟩,ht⟩:=h;have hr:=of_decide_eq_true hr;unfold bM.sound at hs;simp only[Bool.and_eq_true] at hs;obtain ⟨ha,⟨hl,hp⟩,he⟩:=hs;have ha:=of_decide_eq_true ha;unfold bM.ak at hl;simp only[Bool.and_eq_true] at hl;obtain ⟨⟨_,_,NW⟩,⟨⟨_,_⟩,UT⟩,Zm⟩:=hl;have NW:∀m∈q.ms,m.da=true:=fun m hm=>by
  simp only[Bool.not_eq_true',List.any_eq_false] at NW;have:=NW m hm;simpa using this
 have Zp:∀u∈q.us,0<=u/\u<=65535:=fun u hu=>by
  unfold bM.us at hu;obtain ⟨m,hm,rfl⟩:=List.mem_map.1 hu;exact (vN (NW m hm)).1
 have im:∀{l:List Int},(!l.any fun x=>!q.us.any fun y=>x==y)=true->∀x∈l,0<=x/\x<=65535:=fun {l} hl x hx=>by
  simp only[Bool.not_eq_true',List.any_eq_false] at hl;have h4:=hl x hx;cases h5:(q.us.any fun y=>x==y) with
  | false=>exact absurd (fun y hy e=>by rw[List.any_eq_false] at h5;exact h5 y hy e) h4
  | true=>
    obtain ⟨y,hy,e⟩:=List.any_eq_true.1 h5;rw[beq_iff_eq.1 e];exact Zp y hy
 have wq:tk.length=q.ms.length:=by rw[<-hk.nt];exact ha.1
 rw[List.all_eq_true] at ht;refine ⟨⟨ha.2.1,by rw[ZC];omega,by omega⟩,h0,wq,fun i hi kC=>?_,h1,fun x hx=>?_,h2,fun x hx=>?_,Nat.le_trans (wN hr) (by decide),h3,fun x hx=>?_⟩
 ·have hm:=List.getElem_mem hi;have hx:=List.getElem_mem kC;obtain ⟨e1,e2,e3,e4,e5⟩:=vN (NW _ hm);have hf:=ht _ hx;have hlen:tk[i].l.length<=8:=by
   unfold cg at hf;split at hf
   ·cases hf
   ·omega
  have EI:(dE tk[i].l []).isSome=true:=by
   unfold cg at hf;rw[if_neg (by omega)] at hf;exact hf
  refine ⟨fun p hp x hx=>?_,hA _ hm,hlen,fun k sa=>MO (wZ _ _ EI k sa) (hk.bd _ hx k sa)⟩;simp only[n9,List.mem_cons,List.not_mem_nil,or_false] at hp;rcases hp with rfl|rfl|rfl<;>simp only[List.mem_cons,List.not_mem_nil,or_false] at hx
  ·subst hx;exact qo e1
  ·rcases hx with rfl|rfl<;>exact qn (by omega)
  ·rcases hx with rfl|rfl<;>exact qo (by omega)
 ·have h4:=List.all_eq_true.1 hp.1 x hx;unfold cw.bB at h4;rw[Bool.and_eq_true] at h4;have h5:=of_decide_eq_true h4.1;have h6:=of_decide_eq_true h4.2;have h7:=im UT x.id (List.mem_map.2 ⟨x,hx,rfl⟩);intro p bN y hy;simp only[dL,List.mem_cons,List.not_mem_nil,or_false] at bN;rcases bN with rfl|rfl<;>simp only[List.mem_cons,List.not_mem_nil,or_false] at hy
  ·rcases hy with rfl|rfl|rfl<;>exact qo (by omega)
  ·subst hy;exact qn (by omega)
 ·have h4:=List.all_eq_true.1 hp.2 x hx;unfold eA.bB oo at h4;rw[Bool.and_eq_true] at h4;have h5:=of_decide_eq_true h4.1;have h6:=of_decide_eq_true h4.2;have h7:=im Zm x.id (List.mem_map.2 ⟨x,hx,rfl⟩);intro p bN y hy;simp only[dM,List.mem_cons,List.not_mem_nil,or_false] at bN;rcases bN with rfl|rfl|rfl<;>simp only[List.mem_cons,List.not_mem_nil,or_false] at hy
  ·subst hy;exact qo h7
  ·rcases hy with rfl|rfl|rfl|rfl<;>exact qo (by omega)
  ·subst hy;exact qn (by omega)
 ·simp only[Bool.not_eq_true',List.any_eq_false] at he;have h4:=he x hx;simp only[Bool.not_eq_true',Bool.not_eq_false] at h4;unfold jU.dQ at h4;have h4:=of_decide_eq_true h4;intro p bN y hy;simp only[dF,List.mem_cons,List.not_mem_nil,or_false] at bN;rcases bN with rfl|rfl|rfl<;>simp only[List.mem_cons,List.not_mem_nil,or_false] at hy
  ·subst hy;exact qo (by omega)
  ·rcases hy with rfl|rfl<;>exact qn (by omega)
  ·subst hy;exact KM (by omega)
abbrev zZ(b:UInt8):Value:=.int .u8 (b.toNat:Int)
theorem Nx{l m:List UInt8}{k:Nat}(h:l.length=m.length)(hk:k<l.length)(kV:k<m.length):decide (l.drop k=m.drop k)=(decide (l[k]=m[k])&&decide (l.drop (k+1)=m.drop (k+1))):=by
 rw[Bool.eq_iff_iff,Bool.and_eq_true,decide_eq_true_iff,decide_eq_true_iff,decide_eq_true_iff,List.drop_eq_getElem_cons hk,List.drop_eq_getElem_cons kV,List.cons.injEq]
theorem Hw{A:Addr}{n:Nat}{l:List UInt8}:eG Tryz.prog (aB cj 1 cK (.slice (some A) l.length n) l) cK 1 (some A) zZ l:=fun aN=>by
 by_cases hw:∃w S,(aB cj 1 cK (.slice (some A) l.length n) l).at_ w S
 ·exact E3 hw aN
 ·exact ⟨A,rfl,fun w S h=>absurd ⟨w,S,h⟩ hw⟩
end Go.Proofs.YtmbdghclhpboaaaGreat
