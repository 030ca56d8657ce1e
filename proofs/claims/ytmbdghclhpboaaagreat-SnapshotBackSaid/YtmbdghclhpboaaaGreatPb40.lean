/- Part of the proof: Snw3 Snw4 Rdr7 Snw5. Conditions: as each states. -/
import Derived.Test.YtmbdghclhpboaaaGreatPb39
set_option linter.all false
set_option maxRecDepth 100000
set_option maxHeartbeats 8000000
namespace Go.Proofs.YtmbdghclhpboaaaGreat
open Ev
def tikB(k:Tik):List UInt8:=toBE 8 k.secret++toBE 8 k.parent++wB (tikP k)
def TikOk(k:Tik):Prop:=wOk (tikP k)∧k.secret<18446744073709551616∧k.parent<18446744073709551616
theorem wticket{k:Tik}{v:Value}{l L:List UInt8}(hv:SlF v l)(h:TikOk k)(hl:l.length≤800000000)(hL:l++tikB k=L):CP [] 163 [.ptr 0 0,.agg (tikA' k)] (wrH v l) (WrPost L):=by
 cases hb:k.g.void with
 | true=>exact wticket_true hv h.1 h.2.1 h.2.2 hb hl hL
 | false=>exact wticket_false hv h.1 h.2.1 h.2.2 hb hl hL
theorem bs_len(k:Nat)(x:Int):(bs k x).length=k:=toBE_len k _
theorem rec_len(r:Rcd):(wB (recP r)).length=7:=by simp[wB,recP,bs_len]
theorem shp_len(s:Shp):(wB (shpP s)).length=11:=by simp[wB,shpP,bs_len]
theorem evn_len(e:Evn):(wB (evnP e)).length=8:=by simp[wB,evnP,bs_len]
theorem tik_len(k:Tik):(tikB k).length=31:=by simp[tikB,wB,tikP,bs_len,toBE_len]
def lenB(k n:Nat):List UInt8:=[(n:Int)].flatMap (bs k)
theorem lenB_len(k n:Nat):(lenB k n).length=k:=by simp[lenB,bs_len]
theorem weachR{R:Res}{oa:Option Addr}{m:Nat}{xs:List Rcd}{v:Value}{l:List UInt8}(hv:SlF v l)(hx:RdV Tryz.prog R 72 4 oa rcC xs)(hok:∀x∈xs,wOk (recP x))(hn:NumOk 2 (xs.length:Int))(hn2:xs.length≤60000)(hl:l.length≤700000000) :
  CP [] 82 [.ptr 0 0,iA (2:Nat),.lit (.slice oa xs.length m),.func (.func 83) [.ptr 0 0] []] (wrH v l++[.res R]) (fun u H'=>u=undefV∧∃v' d G,d=l++lenB 2 xs.length++xs.flatMap (fun x=>wB (recP x))∧SlF v' d∧H'=wrH v' d++.res R::G):=by
 have q0:∀x∈[(xs.length:Int)],NumOk 2 x:=fun x h=>by rw[List.mem_singleton.1 h];exact hn
 have hB:∀i,(l++lenB 2 xs.length++(xs.take i).flatMap (fun x=>wB (recP x))).length≤800000000:=fun i=>by
  rw[List.length_append,List.length_append,lenB_len,flat_by (fun r=>rec_len r),List.length_take]
  have:min i xs.length * 7≤60000 * 7:=Nat.mul_le_mul_right _ (by omega)
  omega
 refine fn_ok ev_ok rfl ?_
 repeat' ((conv=>whnf);first|with_reducible apply brP_of<;>intro _|(refine (wput (k:=2) (xs:=[(xs.length:Int)]) hv (by decide) (by decide) q0 (by simp) (by omega)).use [0,1,3] rfl rfl ⟨⟨_,rfl,rfl⟩,⟨_,rfl,kp⟩,⟨_,rfl,rfl⟩,tU⟩ ?_;rintro _ _ ⟨rfl,v',d,G,rfl,hv',rfl⟩;refine ⟨[],?_⟩))
 refine loopP ev_ok rfl (fun s:WrS=>[(3,.func (.func 83) [.ptr 0 0] []),(16,.lit (.slice oa xs.length m)),(17,iA xs.length),(18,iA (s.i:Nat))]) (fun s=>wrH s.v (l++lenB 2 xs.length++(xs.take s.i).flatMap (fun x=>wB (recP x)))++[.res R])
  (fun s=>s.i≤xs.length∧SlF s.v (l++lenB 2 xs.length++(xs.take s.i).flatMap (fun x=>wB (recP x)))) (fun s=>xs.length - s.i) ⟨0,v'⟩ ⟨Nat.zero_le _,by simpa [lenB] using hv'⟩ [0,1,2] ?_ ?_
 ·exact ⟨rfl,⟨⟨rfl,rfl⟩,⟨rfl,rfl⟩,⟨rfl,rfl⟩,⟨rfl,rfl⟩,tU⟩,⟨⟨_,rfl,rfl⟩,⟨_,rfl,by simp only[List.take_zero,List.flatMap_nil,List.append_nil];exact fun _ _ h=>h⟩,⟨_,rfl,kp⟩,tU⟩⟩
 ·rintro ⟨i,v⟩ ⟨hi0,hv⟩
  simp only[] at hi0 hv
  by_cases hi:i<xs.length
  ·obtain ⟨a,rfl,hrd⟩:=hx.at hi
   have hki:=hok _ (List.getElem_mem hi)
   have hBi:=hB i
   conv=>whnf
   refine brP_of (fun _=>?_) (noF hi)
   repeat' ((conv=>whnf);first|with_reducible apply brP_of<;>intro _|refine OpP.idxL ev_ok rfl rfl rfl rfl rfl hi ?_|refine OpP.loadR (i:=2) (v:=.agg (rcdA xs[i])) rfl (fun w S hR=>hrd w S hR i hi) rfl rfl ?_|(refine (wrecord hv hki hBi rfl).use [0,1] rfl rfl ⟨⟨_,rfl,rfl⟩,⟨_,rfl,kp⟩,tU⟩ ?_;rintro _ _ ⟨rfl,v',d,G,rfl,hv',rfl⟩;refine ⟨[],?_⟩))
   all_goals (try conv=>whnf)
   have e:l++lenB 2 xs.length++(xs.take (i+1)).flatMap (fun x=>wB (recP x))=l++lenB 2 xs.length++(xs.take i).flatMap (fun x=>wB (recP x))++wB (recP xs[i]):=by
    rw[take_snoc hi,List.flatMap_append]
    simp[List.append_assoc]
   refine ⟨⟨i+1,v'⟩,[0,1,2],⟨⟨hi,by show SlF v' (l++lenB 2 xs.length++(xs.take (i+1)).flatMap (fun x=>wB (recP x)));rw[e];exact hv'⟩,by show xs.length - (i+1)<xs.length - i;omega⟩,rfl,⟨⟨rfl,rfl⟩,⟨rfl,rfl⟩,⟨rfl,rfl⟩,⟨rfl,subInt rfl (wrap_in (by dsimp only;omega) (by dsimp only;omega))⟩,tU⟩,⟨⟨_,rfl,rfl⟩,⟨_,rfl,?_⟩,⟨_,rfl,kp⟩,tU⟩⟩
   show ∀w S,(OwnR byC 1 tBy v' _).at_ w S→(OwnR byC 1 tBy v' (l++lenB 2 xs.length++(xs.take (i+1)).flatMap (fun x=>wB (recP x)))).at_ w S
   rw[e]
   exact fun _ _ h=>h
  ·obtain rfl:i=xs.length:=by omega
   rw[List.take_length] at hv
   conv=>whnf
   refine brP_of (noT hi) (fun _=>?_)
   repeat' ((conv=>whnf);with_reducible apply brP_of<;>intro _)
   all_goals (try conv=>whnf)
   refine ⟨rfl,v,_,[],rfl,hv,?_⟩
   show wrH v (l++lenB 2 xs.length++(xs.take xs.length).flatMap (fun x=>wB (recP x)))++[AObj.res R]=_
   rw[List.take_length]
theorem weachS{R:Res}{oa:Option Addr}{m:Nat}{xs:List Shp}{v:Value}{l:List UInt8}(hv:SlF v l)(hx:RdV Tryz.prog R 78 6 oa shC xs)(hok:∀x∈xs,wOk (shpP x))(hn:NumOk 2 (xs.length:Int))(hn2:xs.length≤60000)(hl:l.length≤700000000) :
  CP [] 84 [.ptr 0 0,iA (2:Nat),.lit (.slice oa xs.length m),.func (.func 85) [.ptr 0 0] []] (wrH v l++[.res R]) (fun u H'=>u=undefV∧∃v' d G,d=l++lenB 2 xs.length++xs.flatMap (fun x=>wB (shpP x))∧SlF v' d∧H'=wrH v' d++.res R::G):=by
 have q0:∀x∈[(xs.length:Int)],NumOk 2 x:=fun x h=>by rw[List.mem_singleton.1 h];exact hn
 have hB:∀i,(l++lenB 2 xs.length++(xs.take i).flatMap (fun x=>wB (shpP x))).length≤800000000:=fun i=>by
  rw[List.length_append,List.length_append,lenB_len,flat_by (fun r=>shp_len r),List.length_take]
  have:min i xs.length * 11≤60000 * 11:=Nat.mul_le_mul_right _ (by omega)
  omega
 refine fn_ok ev_ok rfl ?_
 repeat' ((conv=>whnf);first|with_reducible apply brP_of<;>intro _|(refine (wput (k:=2) (xs:=[(xs.length:Int)]) hv (by decide) (by decide) q0 (by simp) (by omega)).use [0,1,3] rfl rfl ⟨⟨_,rfl,rfl⟩,⟨_,rfl,kp⟩,⟨_,rfl,rfl⟩,tU⟩ ?_;rintro _ _ ⟨rfl,v',d,G,rfl,hv',rfl⟩;refine ⟨[],?_⟩))
 refine loopP ev_ok rfl (fun s:WrS=>[(3,.func (.func 85) [.ptr 0 0] []),(16,.lit (.slice oa xs.length m)),(17,iA xs.length),(18,iA (s.i:Nat))]) (fun s=>wrH s.v (l++lenB 2 xs.length++(xs.take s.i).flatMap (fun x=>wB (shpP x)))++[.res R])
  (fun s=>s.i≤xs.length∧SlF s.v (l++lenB 2 xs.length++(xs.take s.i).flatMap (fun x=>wB (shpP x)))) (fun s=>xs.length - s.i) ⟨0,v'⟩ ⟨Nat.zero_le _,by simpa [lenB] using hv'⟩ [0,1,2] ?_ ?_
 ·exact ⟨rfl,⟨⟨rfl,rfl⟩,⟨rfl,rfl⟩,⟨rfl,rfl⟩,⟨rfl,rfl⟩,tU⟩,⟨⟨_,rfl,rfl⟩,⟨_,rfl,by simp only[List.take_zero,List.flatMap_nil,List.append_nil];exact fun _ _ h=>h⟩,⟨_,rfl,kp⟩,tU⟩⟩
 ·rintro ⟨i,v⟩ ⟨hi0,hv⟩
  simp only[] at hi0 hv
  by_cases hi:i<xs.length
  ·obtain ⟨a,rfl,hrd⟩:=hx.at hi
   have hki:=hok _ (List.getElem_mem hi)
   have hBi:=hB i
   conv=>whnf
   refine brP_of (fun _=>?_) (noF hi)
   repeat' ((conv=>whnf);first|with_reducible apply brP_of<;>intro _|refine OpP.idxL ev_ok rfl rfl rfl rfl rfl hi ?_|refine OpP.loadR (i:=2) (v:=.agg (shpA xs[i])) rfl (fun w S hR=>hrd w S hR i hi) rfl rfl ?_|(refine (wshape hv hki hBi rfl).use [0,1] rfl rfl ⟨⟨_,rfl,rfl⟩,⟨_,rfl,kp⟩,tU⟩ ?_;rintro _ _ ⟨rfl,v',d,G,rfl,hv',rfl⟩;refine ⟨[],?_⟩))
   all_goals (try conv=>whnf)
   have e:l++lenB 2 xs.length++(xs.take (i+1)).flatMap (fun x=>wB (shpP x))=l++lenB 2 xs.length++(xs.take i).flatMap (fun x=>wB (shpP x))++wB (shpP xs[i]):=by
    rw[take_snoc hi,List.flatMap_append]
    simp[List.append_assoc]
   refine ⟨⟨i+1,v'⟩,[0,1,2],⟨⟨hi,by show SlF v' (l++lenB 2 xs.length++(xs.take (i+1)).flatMap (fun x=>wB (shpP x)));rw[e];exact hv'⟩,by show xs.length - (i+1)<xs.length - i;omega⟩,rfl,⟨⟨rfl,rfl⟩,⟨rfl,rfl⟩,⟨rfl,rfl⟩,⟨rfl,subInt rfl (wrap_in (by dsimp only;omega) (by dsimp only;omega))⟩,tU⟩,⟨⟨_,rfl,rfl⟩,⟨_,rfl,?_⟩,⟨_,rfl,kp⟩,tU⟩⟩
   show ∀w S,(OwnR byC 1 tBy v' _).at_ w S→(OwnR byC 1 tBy v' (l++lenB 2 xs.length++(xs.take (i+1)).flatMap (fun x=>wB (shpP x)))).at_ w S
   rw[e]
   exact fun _ _ h=>h
  ·obtain rfl:i=xs.length:=by omega
   rw[List.take_length] at hv
   conv=>whnf
   refine brP_of (noT hi) (fun _=>?_)
   repeat' ((conv=>whnf);with_reducible apply brP_of<;>intro _)
   all_goals (try conv=>whnf)
   refine ⟨rfl,v,_,[],rfl,hv,?_⟩
   show wrH v (l++lenB 2 xs.length++(xs.take xs.length).flatMap (fun x=>wB (shpP x)))++[AObj.res R]=_
   rw[List.take_length]
theorem weachE{R:Res}{oa:Option Addr}{m:Nat}{xs:List Evn}{v:Value}{l:List UInt8}(hv:SlF v l)(hx:RdV Tryz.prog R 81 4 oa evC xs)(hok:∀x∈xs,wOk (evnP x))(hn:NumOk 4 (xs.length:Int))(hn2:xs.length≤60000)(hl:l.length≤700000000) :
  CP [] 86 [.ptr 0 0,iA (4:Nat),.lit (.slice oa xs.length m),.func (.func 87) [.ptr 0 0] []] (wrH v l++[.res R]) (fun u H'=>u=undefV∧∃v' d G,d=l++lenB 4 xs.length++xs.flatMap (fun x=>wB (evnP x))∧SlF v' d∧H'=wrH v' d++.res R::G):=by
 have q0:∀x∈[(xs.length:Int)],NumOk 4 x:=fun x h=>by rw[List.mem_singleton.1 h];exact hn
 have hB:∀i,(l++lenB 4 xs.length++(xs.take i).flatMap (fun x=>wB (evnP x))).length≤800000000:=fun i=>by
  rw[List.length_append,List.length_append,lenB_len,flat_by (fun r=>evn_len r),List.length_take]
  have:min i xs.length * 8≤60000 * 8:=Nat.mul_le_mul_right _ (by omega)
  omega
 refine fn_ok ev_ok rfl ?_
 repeat' ((conv=>whnf);first|with_reducible apply brP_of<;>intro _|(refine (wput (k:=4) (xs:=[(xs.length:Int)]) hv (by decide) (by decide) q0 (by simp) (by omega)).use [0,1,3] rfl rfl ⟨⟨_,rfl,rfl⟩,⟨_,rfl,kp⟩,⟨_,rfl,rfl⟩,tU⟩ ?_;rintro _ _ ⟨rfl,v',d,G,rfl,hv',rfl⟩;refine ⟨[],?_⟩))
 refine loopP ev_ok rfl (fun s:WrS=>[(3,.func (.func 87) [.ptr 0 0] []),(16,.lit (.slice oa xs.length m)),(17,iA xs.length),(18,iA (s.i:Nat))]) (fun s=>wrH s.v (l++lenB 4 xs.length++(xs.take s.i).flatMap (fun x=>wB (evnP x)))++[.res R])
  (fun s=>s.i≤xs.length∧SlF s.v (l++lenB 4 xs.length++(xs.take s.i).flatMap (fun x=>wB (evnP x)))) (fun s=>xs.length - s.i) ⟨0,v'⟩ ⟨Nat.zero_le _,by simpa [lenB] using hv'⟩ [0,1,2] ?_ ?_
 ·exact ⟨rfl,⟨⟨rfl,rfl⟩,⟨rfl,rfl⟩,⟨rfl,rfl⟩,⟨rfl,rfl⟩,tU⟩,⟨⟨_,rfl,rfl⟩,⟨_,rfl,by simp only[List.take_zero,List.flatMap_nil,List.append_nil];exact fun _ _ h=>h⟩,⟨_,rfl,kp⟩,tU⟩⟩
 ·rintro ⟨i,v⟩ ⟨hi0,hv⟩
  simp only[] at hi0 hv
  by_cases hi:i<xs.length
  ·obtain ⟨a,rfl,hrd⟩:=hx.at hi
   have hki:=hok _ (List.getElem_mem hi)
   have hBi:=hB i
   conv=>whnf
   refine brP_of (fun _=>?_) (noF hi)
   repeat' ((conv=>whnf);first|with_reducible apply brP_of<;>intro _|refine OpP.idxL ev_ok rfl rfl rfl rfl rfl hi ?_|refine OpP.loadR (i:=2) (v:=.agg (evA xs[i])) rfl (fun w S hR=>hrd w S hR i hi) rfl rfl ?_|(refine (wevent hv hki hBi rfl).use [0,1] rfl rfl ⟨⟨_,rfl,rfl⟩,⟨_,rfl,kp⟩,tU⟩ ?_;rintro _ _ ⟨rfl,v',d,G,rfl,hv',rfl⟩;refine ⟨[],?_⟩))
   all_goals (try conv=>whnf)
   have e:l++lenB 4 xs.length++(xs.take (i+1)).flatMap (fun x=>wB (evnP x))=l++lenB 4 xs.length++(xs.take i).flatMap (fun x=>wB (evnP x))++wB (evnP xs[i]):=by
    rw[take_snoc hi,List.flatMap_append]
    simp[List.append_assoc]
   refine ⟨⟨i+1,v'⟩,[0,1,2],⟨⟨hi,by show SlF v' (l++lenB 4 xs.length++(xs.take (i+1)).flatMap (fun x=>wB (evnP x)));rw[e];exact hv'⟩,by show xs.length - (i+1)<xs.length - i;omega⟩,rfl,⟨⟨rfl,rfl⟩,⟨rfl,rfl⟩,⟨rfl,rfl⟩,⟨rfl,subInt rfl (wrap_in (by dsimp only;omega) (by dsimp only;omega))⟩,tU⟩,⟨⟨_,rfl,rfl⟩,⟨_,rfl,?_⟩,⟨_,rfl,kp⟩,tU⟩⟩
   show ∀w S,(OwnR byC 1 tBy v' _).at_ w S→(OwnR byC 1 tBy v' (l++lenB 4 xs.length++(xs.take (i+1)).flatMap (fun x=>wB (evnP x)))).at_ w S
   rw[e]
   exact fun _ _ h=>h
  ·obtain rfl:i=xs.length:=by omega
   rw[List.take_length] at hv
   conv=>whnf
   refine brP_of (noT hi) (fun _=>?_)
   repeat' ((conv=>whnf);with_reducible apply brP_of<;>intro _)
   all_goals (try conv=>whnf)
   refine ⟨rfl,v,_,[],rfl,hv,?_⟩
   show wrH v (l++lenB 4 xs.length++(xs.take xs.length).flatMap (fun x=>wB (evnP x)))++[AObj.res R]=_
   rw[List.take_length]
theorem weachT{R:Res}{oa:Option Addr}{m:Nat}{xs:List Tik}{v:Value}{l:List UInt8}(hv:SlF v l)(hx:RdV Tryz.prog R 96 10 oa tikV xs)(hok:∀x∈xs,TikOk x)(hn:NumOk 1 (xs.length:Int))(hn2:xs.length≤60000)(hl:l.length≤700000000) :
  CP [] 162 [.ptr 0 0,iA (1:Nat),.lit (.slice oa xs.length m),.func (.func 163) [.ptr 0 0] []] (wrH v l++[.res R]) (fun u H'=>u=undefV∧∃v' d G,d=l++lenB 1 xs.length++xs.flatMap tikB∧SlF v' d∧H'=wrH v' d++.res R::G):=by
 have q0:∀x∈[(xs.length:Int)],NumOk 1 x:=fun x h=>by rw[List.mem_singleton.1 h];exact hn
 have hB:∀i,(l++lenB 1 xs.length++(xs.take i).flatMap tikB).length≤800000000:=fun i=>by
  rw[List.length_append,List.length_append,lenB_len,flat_by tik_len,List.length_take]
  have:min i xs.length * 31≤60000 * 31:=Nat.mul_le_mul_right _ (by omega)
  omega
 refine fn_ok ev_ok rfl ?_
 repeat' ((conv=>whnf);first|with_reducible apply brP_of<;>intro _|(refine (wput (k:=1) (xs:=[(xs.length:Int)]) hv (by decide) (by decide) q0 (by simp) (by omega)).use [0,1,3] rfl rfl ⟨⟨_,rfl,rfl⟩,⟨_,rfl,kp⟩,⟨_,rfl,rfl⟩,tU⟩ ?_;rintro _ _ ⟨rfl,v',d,G,rfl,hv',rfl⟩;refine ⟨[],?_⟩))
 refine loopP ev_ok rfl (fun s:WrS=>[(3,.func (.func 163) [.ptr 0 0] []),(16,.lit (.slice oa xs.length m)),(17,iA xs.length),(18,iA (s.i:Nat))]) (fun s=>wrH s.v (l++lenB 1 xs.length++(xs.take s.i).flatMap tikB)++[.res R])
  (fun s=>s.i≤xs.length∧SlF s.v (l++lenB 1 xs.length++(xs.take s.i).flatMap tikB)) (fun s=>xs.length - s.i) ⟨0,v'⟩ ⟨Nat.zero_le _,by simpa [lenB] using hv'⟩ [0,1,2] ?_ ?_
 ·exact ⟨rfl,⟨⟨rfl,rfl⟩,⟨rfl,rfl⟩,⟨rfl,rfl⟩,⟨rfl,rfl⟩,tU⟩,⟨⟨_,rfl,rfl⟩,⟨_,rfl,by simp only[List.take_zero,List.flatMap_nil,List.append_nil];exact fun _ _ h=>h⟩,⟨_,rfl,kp⟩,tU⟩⟩
 ·rintro ⟨i,v⟩ ⟨hi0,hv⟩
  simp only[] at hi0 hv
  by_cases hi:i<xs.length
  ·obtain ⟨a,rfl,hrd⟩:=hx.at hi
   have hki:=hok _ (List.getElem_mem hi)
   have hBi:=hB i
   conv=>whnf
   refine brP_of (fun _=>?_) (noF hi)
   repeat' ((conv=>whnf);first|with_reducible apply brP_of<;>intro _|refine OpP.idxL ev_ok rfl rfl rfl rfl rfl hi ?_|refine OpP.loadR (i:=2) (v:=.agg (tikA' xs[i])) rfl (fun w S hR=>hrd w S hR i hi) rfl rfl ?_|(refine (wticket hv hki hBi rfl).use [0,1] rfl rfl ⟨⟨_,rfl,rfl⟩,⟨_,rfl,kp⟩,tU⟩ ?_;rintro _ _ ⟨rfl,v',d,G,rfl,hv',rfl⟩;refine ⟨[],?_⟩))
   all_goals (try conv=>whnf)
   have e:l++lenB 1 xs.length++(xs.take (i+1)).flatMap tikB=l++lenB 1 xs.length++(xs.take i).flatMap tikB++tikB xs[i]:=by
    rw[take_snoc hi,List.flatMap_append]
    simp[List.append_assoc]
   refine ⟨⟨i+1,v'⟩,[0,1,2],⟨⟨hi,by show SlF v' (l++lenB 1 xs.length++(xs.take (i+1)).flatMap tikB);rw[e];exact hv'⟩,by show xs.length - (i+1)<xs.length - i;omega⟩,rfl,⟨⟨rfl,rfl⟩,⟨rfl,rfl⟩,⟨rfl,rfl⟩,⟨rfl,subInt rfl (wrap_in (by dsimp only;omega) (by dsimp only;omega))⟩,tU⟩,⟨⟨_,rfl,rfl⟩,⟨_,rfl,?_⟩,⟨_,rfl,kp⟩,tU⟩⟩
   show ∀w S,(OwnR byC 1 tBy v' _).at_ w S→(OwnR byC 1 tBy v' (l++lenB 1 xs.length++(xs.take (i+1)).flatMap tikB)).at_ w S
   rw[e]
   exact fun _ _ h=>h
  ·obtain rfl:i=xs.length:=by omega
   rw[List.take_length] at hv
   conv=>whnf
   refine brP_of (noT hi) (fun _=>?_)
   repeat' ((conv=>whnf);with_reducible apply brP_of<;>intro _)
   all_goals (try conv=>whnf)
   refine ⟨rfl,v,_,[],rfl,hv,?_⟩
   show wrH v (l++lenB 1 xs.length++(xs.take xs.length).flatMap tikB)++[AObj.res R]=_
   rw[List.take_length]
theorem subU{t:Tmps}{i:Nat}{n m:Int}{g:Nat→Nat}(h:t.get i=some (uA m))(e:m=n):t.get i=some ((uA n).ren g):=by rw[h,e];rfl
theorem RdV.cells{α:Type}{P:Program}{E:Env}(hE:EnvOk P E){R:Res}{ty:TypeId}{enc:α→Value}{l:List α}{oa:Option Addr}(hty:∃r,E.ty ty=some r∧isAggD r.und=false)(h:l≠[]→∃b off,oa=some ⟨b,off,none⟩∧∀w S,R.at_ w S→Lay w b off (l.map enc)):RdV P R ty 1 oa enc l:=fun hne=>by
 obtain ⟨b,off,rfl,hl⟩:=h hne
 refine ⟨_,rfl,fun w S hw q hq=>?_⟩
 obtain ⟨r,hr,hag⟩:=hty
 rw[Addr.add_mid,Nat.mul_one]
 have hc:=hl w S hw q (enc l[q]) (by rw[List.getElem?_map,List.getElem?_eq_getElem hq];rfl)
 unfold loadVar
 rw[Sem.run_bind,run_agg hE hr w,hag]
 simp only[Result.andThen_ok,Bool.false_eq_true,if_false,run_load,hc]
theorem by_map(l:List UInt8):l.flatMap byC=l.map fun b=>Value.int .u8 (b.toNat:Int):=by
 induction l with
 | nil=>rfl
 | cons a l ih=>rw[List.flatMap_cons,ih];rfl
theorem byty_ok:∃r,ev.ty tBy=some r∧isAggD r.und=false:=⟨_,rfl,rfl⟩
theorem own_by{A:Option Addr}{m:Nat}{l:List UInt8}(hh:∃w S,(OwnR byC 1 tBy (.slice A l.length m) l).at_ w S):RdV Tryz.prog (OwnR byC 1 tBy (.slice A l.length m) l) tBy 1 A (fun b=>.int .u8 (b.toNat:Int)) l:=
 RdV.cells ev_ok byty_ok fun hne=>by
  obtain ⟨w0,S0,h0⟩:=hh
  obtain ⟨b,off,rfl,_,_⟩:=own_lay h0.1 hne
  refine ⟨b,off,rfl,fun w S h=>?_⟩
  obtain ⟨b',off',e,_,hl⟩:=own_lay h.1 hne
  simp only[Option.some.injEq,Addr.mk.injEq] at e
  obtain ⟨rfl,rfl,_⟩:=e
  rw[←by_map]
  exact hl
def sumN(l:List UInt8):Nat:=(l.map UInt8.toNat).sum
theorem sumN_snoc(l:List UInt8)(b:UInt8):sumN (l++[b])=sumN l+b.toNat:=by simp[sumN]
theorem sumN_le:∀l:List UInt8,sumN l≤255 * l.length
 | []=>by simp[sumN]
 | a::l=>by
   have h:=sumN_le l
   have:a.toNat<256:=a.toNat_lt
   simp only[sumN,List.map_cons,List.sum_cons,List.length_cons] at h ⊢
   omega
theorem ssum{A:Option Addr}{m:Nat}{l:List UInt8}(hl:l.length≤1000000000):CP [] 89 [.lit (.slice A l.length m)] [.res (OwnR byC 1 tBy (.slice A l.length m) l)] (fun v H'=>v=uA ((sumN l % 4294967296:Nat):Int)∧∃G,H'=.res (OwnR byC 1 tBy (.slice A l.length m) l)::G):=by
 refine CallS.know 0 rfl (fun w S h=>own_by ⟨w,S,h⟩) fun hrd0=>?_
 refine fn_ok ev_ok rfl ?_
 conv=>whnf
 refine loopP ev_ok rfl (fun k:Nat=>[(3,uA (sumN (l.take k):Nat)),(6,.lit (.slice A l.length m)),(7,iA l.length),(8,iA (k:Nat))]) (fun _=>[.res (OwnR byC 1 tBy (.slice A l.length m) l)]) (fun k=>k≤l.length) (fun k=>l.length - k) 0 (Nat.zero_le _) [0] ?_ ?_
 ·exact ⟨rfl,⟨⟨rfl,rfl⟩,⟨rfl,rfl⟩,⟨rfl,rfl⟩,⟨rfl,rfl⟩,tU⟩,⟨⟨_,rfl,kp⟩,tU⟩⟩
 ·intro k hk0
  by_cases hk:k<l.length
  ·obtain ⟨a,rfl,hrd⟩:=hrd0.at hk
   conv=>whnf
   refine brP_of (fun _=>?_) (noF hk)
   repeat' ((conv=>whnf);first|with_reducible apply brP_of<;>intro _|refine OpP.idxL ev_ok rfl rfl rfl rfl rfl hk ?_|refine OpP.loadR (i:=0) (v:=.lit (.int .u8 (l[k].toNat:Int))) rfl (fun w S hR=>hrd w S hR k hk) rfl rfl ?_)
   all_goals (try conv=>whnf)
   have h1:=sumN_snoc (l.take k) l[k]
   rw[←take_snoc hk] at h1
   have h2:=sumN_le (l.take k)
   rw[List.length_take] at h2
   have h3:l[k].toNat<256:=l[k].toNat_lt
   have e:IntKind.u64.wrap (↑(sumN (l.take k))+IntKind.u64.wrap ↑l[k].toNat)=((sumN (l.take (k+1)):Nat):Int):=by
    rw[IntKind.wrap_u64,IntKind.wrap_u64,h1]
    omega
   exact ⟨k+1,[0],⟨hk,by omega⟩,rfl,⟨⟨rfl,subU rfl e⟩,⟨rfl,rfl⟩,⟨rfl,rfl⟩,⟨rfl,subInt rfl (wrap_in (by omega) (by omega))⟩,tU⟩,⟨⟨_,rfl,kp⟩,tU⟩⟩
  ·obtain rfl:k=l.length:=by omega
   conv=>whnf
   refine brP_of (noT hk) (fun _=>?_)
   repeat' ((conv=>whnf);first|with_reducible apply brP_of<;>intro _|refine OpP.rem rfl rfl rfl ?_)
   all_goals (try conv=>whnf)
   rw[List.take_length]
   exact ⟨congrArg uA (by rw[Int.natCast_emod];exact Int.tmod_eq_emod_of_nonneg (by omega)),_,rfl⟩
def memP(m:Mem):List (Nat×List Int):=[(2,[m.user]),(1,[m.role,m.tier]),(2,[m.quota,m.k])]
def memB(m:Mem)(tk:List Tik):List UInt8:=wB (memP m)++toBE 8 m.area.toNat++(lenB 1 tk.length++tk.flatMap tikB)
def MemOk(m:Mem)(tk:List Tik):Prop:=wOk (memP m)∧(0≤m.area∧m.area<18446744073709551616)∧tk.length≤8∧∀k∈tk,TikOk k
theorem mem_len{m:Mem}{tk:List Tik}(h:tk.length≤8):(memB m tk).length≤300:=by
 have e:(wB (memP m)).length=8:=by simp[wB,memP,bs_len]
 unfold memB
 rw[List.length_append,List.length_append,List.length_append,e,toBE_len,lenB_len,flat_by tik_len]
 omega
theorem wmember{R:Res}{m:Mem}{x:TkS}{v:Value}{l L:List UInt8}(hv:SlF v l)(hx:RdV Tryz.prog R 96 10 x.oa tikV x.l)(h:MemOk m x.l)(hl:l.length≤600000000)(hL:l++memB m x.l=L) :
  CP [] 81 [.ptr 0 0,.agg (mA m),.lit (tkV x)] (wrH v l++[.res R]) (fun u H'=>u=undefV∧∃v' d G,d=L∧SlF v' d∧H'=wrH v' d++.res R::G):=by
 have q0:∀y∈[m.user],NumOk 2 y:=h.1 (2,_) (by simp[memP])
 have q1:∀y∈[m.role,m.tier],NumOk 1 y:=h.1 (1,_) (by simp[memP])
 have q2:∀y∈[m.quota,m.k],NumOk 2 y:=h.1 (2,[m.quota,m.k]) (by simp[memP])
 have q3:m.area.toNat<18446744073709551616:=by have:=h.2.1;omega
 have q4:((m.area.toNat:Nat):Int)=m.area:=Int.toNat_of_nonneg h.2.1.1
 have q5:NumOk 1 (x.l.length:Int):=⟨by omega,by have:=h.2.2.1;show (x.l.length:Int)<256;omega,by have:=h.2.2.1;omega⟩
 have h8:=h.2.2.1
 refine fn_ok ev_ok rfl ?_
 refine FnW.of rfl rfl ?_
 refine WpC.seqG fun F hF=>?_
 repeat' ((conv=>whnf);first|with_reducible apply brP_of<;>intro _|(refine (wput (k:=2) (xs:=[m.user]) (by assumption) (by decide) (by decide) q0 (by simp) (by clear q3;omega)).use [0,1,4] rfl rfl ⟨⟨_,rfl,rfl⟩,⟨_,rfl,kp⟩,⟨_,rfl,rfl⟩,tU⟩ ?_;rintro _ _ ⟨rfl,v',d,G,hd,hv',rfl⟩;have hdl:=congrArg List.length hd;simp only[len_put,len_long,List.length_cons,List.length_nil] at hdl;refine ⟨[],?_⟩)|(refine (wput (k:=1) (xs:=[m.role,m.tier]) (by assumption) (by decide) (by decide) q1 (by simp) (by clear q3;omega)).use [0,1,5] rfl rfl ⟨⟨_,rfl,rfl⟩,⟨_,rfl,kp⟩,⟨_,rfl,rfl⟩,tU⟩ ?_;rintro _ _ ⟨rfl,v',d,G,hd,hv',rfl⟩;have hdl:=congrArg List.length hd;simp only[len_put,len_long,List.length_cons,List.length_nil] at hdl;refine ⟨[],?_⟩)|(refine (wput (k:=2) (xs:=[m.quota,m.k]) (by assumption) (by decide) (by decide) q2 (by simp) (by clear q3;omega)).use [0,1,6] rfl rfl ⟨⟨_,rfl,rfl⟩,⟨_,rfl,kp⟩,⟨_,rfl,rfl⟩,tU⟩ ?_;rintro _ _ ⟨rfl,v',d,G,hd,hv',rfl⟩;have hdl:=congrArg List.length hd;simp only[len_put,len_long,List.length_cons,List.length_nil] at hdl;refine ⟨[],?_⟩)|(refine (wlong (k:=8) (n:=m.area.toNat) (by assumption) (by decide) (by decide) q3 (pow8 q3) (by clear q3;omega)).use [0,1] (by rw[q4];rfl) rfl ⟨⟨_,rfl,rfl⟩,⟨_,rfl,kp⟩,tU⟩ ?_;rintro _ _ ⟨rfl,v',d,G,hd,hv',rfl⟩;have hdl:=congrArg List.length hd;simp only[len_put,len_long,List.length_cons,List.length_nil] at hdl;refine ⟨[],?_⟩)|(refine (weachT (m:=x.c) (by assumption) hx h.2.2.2 q5 (by clear q3;omega) (by clear q3;omega)).use [0,1,2] rfl rfl ⟨⟨_,rfl,rfl⟩,⟨_,rfl,kp⟩,⟨_,rfl,kp⟩,tU⟩ ?_;rintro _ _ ⟨rfl,v',d,G,hd,hv',rfl⟩;refine ⟨[],?_⟩)|(subst hF;refine WpC.seqG fun F hF=>?_)|subst hF)
 all_goals (try conv=>whnf)
 refine ⟨rfl,_,_,_,?_,by assumption,rfl⟩
 rw[←hL]
 clear hL
 subst_vars
 simp[memB,wB,memP,List.append_assoc]
theorem stars_mem:∀{L:List Res} {w:World} {S:Nat→Prop} {r:Res},stars L w S→r∈L→∃S1,r.at_ w S1
 | _::_,_,_,_,⟨S1,S2,h1,h2,_,_⟩,h=>by
   rcases List.mem_cons.1 h with rfl|h
   ·exact ⟨S1,h1⟩
   ·exact stars_mem h2 h
theorem stars_nil:∀(X:List AObj) (w:World),stars (rss (X.map clr1)) w fun _=>False
 | [],w=>fun _ h=>h
 | a::X,w=>by
   refine ⟨fun _=>False,fun _=>False,?_,stars_nil X w,fun _ h=>h.elim,fun b=>by simp⟩
   have e:rsOf (clr1 a)=resNil:=by cases a<;>rfl
   rw[e]
   exact fun _ h=>h
theorem Ev.Ent.gather(M:List Res)(X:List AObj):Ent (Res.star M::rss X) (Res.star (M++rss X)::rss (X.map clr1)):=fun w T ⟨S1,S2,h1,h2,hd,hT⟩=>⟨T,fun _ h=>h,T,fun _=>False,stars_append.2 ⟨S1,S2,h1,h2,hd,hT⟩,stars_nil X w,fun _ _ h=>h,fun b=>by simp⟩
theorem own_rdv{α:Type}{enc:α→List Value}{k:Nat}{e:TypeId}{A:Option Addr}{c:Nat}{l:List α}{L:List Res}(hm:OwnR enc k e (.slice A l.length c) l∈L)(hf:SlF (.slice A l.length c) l)(hk:∀a,(enc a).length=k)(hty:∃r,ev.ty e=some r∧r.info.size=k∧isAggD r.und=true):RdV Tryz.prog (Res.star L) e k A (fun a=>.agg (enc a).toArray) l:=fun hne=>by
 by_cases hw:∃w S,(Res.star L).at_ w S
 ·obtain ⟨w0,S0,h0⟩:=hw
  obtain ⟨S1,h1⟩:=stars_mem h0 hm
  obtain ⟨b,off,rfl,_,_⟩:=own_lay h1.1 hne
  refine RdV.lay ev_ok hk hty (fun _=>⟨b,off,rfl,fun w S h=>?_⟩) hne
  obtain ⟨S2,h2⟩:=stars_mem h hm
  obtain ⟨b',off',e,_,hl⟩:=own_lay h2.1 hne
  simp only[Option.some.injEq,Addr.mk.injEq] at e
  obtain ⟨rfl,rfl,_⟩:=e
  exact hl
 ·rcases hf with ⟨_,h⟩|⟨a,n,h⟩
  ·exact absurd h hne
  ·injection h with e1
   exact ⟨a,e1,fun w S h=>absurd ⟨w,S,h⟩ hw⟩
theorem lay_rdv{α:Type}{enc:α→List Value}{k:Nat}{e:TypeId}{b off:Nat}{l:List α}{L:List Res}(hm:LayR ⟨b,off,none⟩ (l.flatMap enc)∈L)(hk:∀a,(enc a).length=k)(hty:∃r,ev.ty e=some r∧r.info.size=k∧isAggD r.und=true):RdV Tryz.prog (Res.star L) e k (some ⟨b,off,none⟩) (fun a=>.agg (enc a).toArray) l:=
 RdV.lay ev_ok hk hty fun _=>⟨b,off,rfl,fun w S h j u hj=>by
  obtain ⟨S1,h1⟩:=stars_mem h hm
  exact h1.1 j u hj⟩
theorem lay_rdc{α:Type}{enc:α→Value}{e:TypeId}{b off:Nat}{l:List α}{L:List Res}(hm:LayR ⟨b,off,none⟩ (l.map enc)∈L)(hty:∃r,ev.ty e=some r∧isAggD r.und=false):RdV Tryz.prog (Res.star L) e 1 (some ⟨b,off,none⟩) enc l:=
 RdV.cells ev_ok hty fun _=>⟨b,off,rfl,fun w S h j u hj=>by
  obtain ⟨S1,h1⟩:=stars_mem h hm
  exact h1.1 j u hj⟩
theorem RdV.nil{α:Type}{P:Program}{R:Res}{ty:TypeId}{size:Nat}{oa:Option Addr}{enc:α→Value}:RdV P R ty size oa enc []:=fun h=>absurd rfl h
def svH3(acc:List (Mem×List Tik))(tk:List TkS)(vm vt:Value)(rows:List AObj):Nat→Prop
 | 0=>vm=nilV∧vt=nilV∧rows=[]
 | i+1=>∃bm om cm bt ot ct,vm=.slice (some ⟨bm,om,none⟩) (i+1) cm∧vt=.slice (some ⟨bt,ot,none⟩) (i+1) ct∧rows=[.res (LayR ⟨bm,om,none⟩ ((acc.map (·.1)).flatMap mL)),.res (LayR ⟨bt,ot,none⟩ (tk.map tkV))]
def svH4(acc:List (Mem×List Tik))(tk:List TkS)(vm:Value)(rows:List AObj):Nat→Prop
 | 0=>vm=nilV∧rows=[]
 | i+1=>∃bm om cm,vm=.slice (some ⟨bm,om,none⟩) (i+1) cm∧rows=[.res (LayR ⟨bm,om,none⟩ ((acc.map (·.1)).flatMap mL)),.row (tk.map tkV) 52]
def StP1(R:Res)(s:Rst)(v:AV)(H':List AObj):Prop:=∃i acc tk tk' s' vr vs tx ve p A B rest vm rows,acc.length=i∧tk.length=i∧s'.Ok R∧StF s acc tk tk' s' vr vs tx ve p rest∧svH4 acc tk vm rows i∧v=.agg [.lit vm,svA 6 1 i,.lit vr,.lit vs,.lit (.string tx),.lit ve,iA p]∧H'=rdG s'::.res R::.res (tkPool tk')::A::B::rows++rest
def StP2(R:Res)(s:Rst)(v:AV)(H':List AObj):Prop:=∃i acc tk tk' s' vr vs tx ve p A B rest vm vt rows,acc.length=i∧tk.length=i∧s'.Ok R∧StF s acc tk tk' s' vr vs tx ve p rest∧svH3 acc tk vm vt rows i∧v=.agg [.lit vm,.lit vt,.lit vr,.lit vs,.lit (.string tx),.lit ve,iA p]∧H'=rdG s'::.res R::.res (tkPool tk')::A::B::rows++rest
theorem off_lit{o:Nat}{v:Value}:OffO o (.lit v):=fun _ _=>rfl
theorem rstate1{R:Res}{s:Rst}(h:s.Ok R)(hl:s.l.length≤1000000000):CP [] 39 [.ptr 0 0] [rdG s,.res R,.res (tkPool [])] (StP1 R s):=by
 refine CallS.litA (rstate0 h hl) ?_
 rintro _ _ ⟨i,acc,tk,tk',s',vr,vs,tx,ve,p,A,B,rest,h1,h2,h3,h4,rfl,rfl⟩
 rcases i with _|i
 ·left
  exact ⟨0,acc,tk,tk',s',vr,vs,tx,ve,p,A,B,rest,nilV,[],h1,h2,h3,h4,⟨rfl,rfl⟩,rfl,rfl⟩
 ·right
  refine ⟨[],[svA 6 1 (i+1),.lit vr,.lit vs,.lit (.string tx),.lit ve,iA p],5,i+1,.grown 6,_,_,rfl,by omega,rfl,fun u hu=>?_,fun b off m=>?_⟩
  ·simp only[List.nil_append,List.mem_cons,List.not_mem_nil,or_false] at hu
   rcases hu with rfl|rfl|rfl|rfl|rfl|rfl
   ·exact fun g hg=>by
     show AV.slice (g 6) 0 (i+1) (.grown 1)=_
     rw[hg 6 (by decide)]
     rfl
   all_goals exact off_lit
  ·exact ⟨i+1,acc,tk,tk',s',vr,vs,tx,ve,p,A,B,rest,_,_,h1,h2,h3,h4,⟨b,off,m,rfl,rfl⟩,rfl,rfl⟩
theorem rstate2{R:Res}{s:Rst}(h:s.Ok R)(hl:s.l.length≤1000000000):CP [] 39 [.ptr 0 0] [rdG s,.res R,.res (tkPool [])] (StP2 R s):=by
 refine CallS.litA (rstate1 h hl) ?_
 rintro _ _ ⟨i,acc,tk,tk',s',vr,vs,tx,ve,p,A,B,rest,vm,rows,h1,h2,h3,h4,h5,rfl,rfl⟩
 rcases i with _|i
 ·left
  obtain ⟨rfl,rfl⟩:=h5
  exact ⟨0,acc,tk,tk',s',vr,vs,tx,ve,p,A,B,rest,nilV,nilV,[],h1,h2,h3,h4,⟨rfl,rfl,rfl⟩,rfl,rfl⟩
 ·right
  obtain ⟨bm,om,cm,rfl,rfl⟩:=h5
  refine ⟨[.lit (.slice (some ⟨bm,om,none⟩) (i+1) cm)],[.lit vr,.lit vs,.lit (.string tx),.lit ve,iA p],6,i+1,.grown 1,_,_,rfl,by omega,rfl,fun u hu=>?_,fun b off m=>?_⟩
  ·simp only[List.cons_append,List.nil_append,List.mem_cons,List.not_mem_nil,or_false] at hu
   rcases hu with rfl|rfl|rfl|rfl|rfl|rfl
   all_goals exact off_lit
  ·exact ⟨i+1,acc,tk,tk',s',vr,vs,tx,ve,p,A,B,rest,_,_,_,h1,h2,h3,h4,⟨bm,om,cm,b,off,m,rfl,rfl,rfl⟩,rfl,rfl⟩
def TikU(k:Tik):Prop:=k.secret<18446744073709551616∧k.parent<18446744073709551616
theorem tik_u(s:Rst):TikU s.tik.1:=⟨long_lt (by decide),long_lt (by decide)⟩
theorem some_u:∀(n:Nat) (s:Rst) (acc:List Tik),(∀k∈acc,TikU k)→∀k∈(someL Rst.tik n s acc).1,TikU k
 | 0,s,acc,h=>h
 | n+1,s,acc,h=>by
   unfold someL
   split
   ·intro k hk;cases hk
   ·exact some_u n _ _ fun k hk=>by
     rcases List.mem_append.1 hk with hk|hk
     ·exact h k hk
     ·rw[List.mem_singleton.1 hk];exact tik_u s
theorem mems_u:∀(n:Nat) (s:Rst) (acc:List (Mem×List Tik)),(∀m∈acc,∀k∈m.2,TikU k)→∀m∈(memsL n s acc).1,∀k∈m.2,TikU k
 | 0,s,acc,h=>h
 | n+1,s,acc,h=>by
   unfold memsL
   split
   ·exact h
   ·exact mems_u n _ _ fun m hm=>by
     rcases List.mem_append.1 hm with hm|hm
     ·exact h m hm
     ·rw[List.mem_singleton.1 hm]
      unfold Rst.mem
      simp only[]
      exact some_u _ _ _ (fun k hk=>by cases hk)
theorem sta_ms(s:Rst):s.sta.1.ms=(memsL ((s.num 8).2.num 2).1 ((s.num 8).2.num 2).2 []).1:=by
 unfold Rst.sta
 simp only[]
 split<;>rfl
theorem sta_u{s s':Rst}{x:StaX}(h:s.sta=(x,s')):∀m∈x.ms,∀k∈m.2,TikU k:=by
 have e:x=s.sta.1:=by rw[h]
 rw[e,sta_ms]
 exact mems_u _ _ _ (fun m hm=>by cases hm)
structure StaOf(x:StaX)(q:Sta)(tk:List TkS):Prop where
 ms:q.ms=x.ms.map (·.1)
 tk:tk.map TkS.l=x.ms.map (·.2)
 rs:q.rs=x.rs
 ss:q.ss=x.ss
 es:q.es=x.es
 tx:q.tx=⟨x.tx.toArray⟩
 past:q.past=x.past
theorem memty_ok:∃r,ev.ty 51=some r∧r.info.size=6∧isAggD r.und=true:=⟨_,rfl,rfl,rfl⟩
theorem recty_ok:∃r,ev.ty 72=some r∧r.info.size=4∧isAggD r.und=true:=⟨_,rfl,rfl,rfl⟩
theorem shpty_ok:∃r,ev.ty 78=some r∧r.info.size=6∧isAggD r.und=true:=⟨_,rfl,rfl,rfl⟩
theorem evnty_ok:∃r,ev.ty 81=some r∧r.info.size=4∧isAggD r.und=true:=⟨_,rfl,rfl,rfl⟩
theorem tikty_ok:∃r,ev.ty 96=some r∧r.info.size=10∧isAggD r.und=true:=⟨_,rfl,rfl,rfl⟩
theorem tksty_ok:∃r,ev.ty 52=some r∧isAggD r.und=false:=⟨_,rfl,rfl⟩
theorem rstate{R:Res}{s:Rst}(h:s.Ok R)(hl:s.l.length≤1000000000):CP [] 39 [.ptr 0 0] [rdG s,.res R] (fun v H'=>∃x s' q tk RR G,s.sta=(x,s')∧s'.Ok R∧(s'.bad=false→StaOf x q tk∧q.Rd RR∧q.Tk RR tk)∧v=.agg q.a∧H'=rdG s'::.res R::.res RR::G):=by
 refine CallS.post (CallS.pre (Pre.more (R:=tkPool []) rfl (Ent.snocE tkPool_zero _)) (rstate2 h hl)) ?_
 rintro _ _ ⟨i,acc,tk,tk',s',vr,vs,tx,ve,p,A,B,rest,vm,vt,rows,h1,h2,h3,h4,h5,rfl,rfl⟩
 obtain ⟨M,hM⟩:∃M,M=tk'.map fun x=>OwnR tC 10 96 (tkV x) x.l:=⟨_,rfl⟩
 have hP:Pre (rdG s'::.res R::.res (tkPool tk')::A::B::rows++rest) (rdG s'::.res R::.res (Res.star (M++rss (A::B::rows++rest)))::(A::B::rows++rest).map clr1):=by
  refine Pre.same ?_ (.cons _ (.cons _ ?_))
  ·simp only[List.map_cons,List.cons_append,List.map_append,List.map_map,vw_clr]
   refine congrArg _ (congrArg _ (congrArg _ (congrArg _ (congrArg _ ?_))))
   rw[show vw∘clr1=vw from funext vw_clr]
  ·rw[hM]
   exact .gather _ _
 refine ⟨_,hP,?_⟩
 have hform:∃om cm ot ct,vm=.slice om i cm∧vt=.slice ot i ct:=by
  rcases i with _|i
  ·obtain ⟨rfl,rfl,_⟩:=h5
   exact ⟨none,0,none,0,rfl,rfl⟩
  ·obtain ⟨bm,om,cm,bt,ot,ct,rfl,rfl,_⟩:=h5
   exact ⟨_,_,_,_,rfl,rfl⟩
 obtain ⟨om,cm,ot,ct,rfl,rfl⟩:=hform
 rcases h4 with ⟨x,hb,he,rfl,rfl,rfl⟩|⟨rs,ss,t,es,p',G,he,hq,htk,rfl,hr,hs,hv,rfl,rfl,rfl⟩
 ·exact ⟨x,s',⟨acc.map (fun m:Mem×List Tik=>m.1),i,[],[],tx,[],p,om,ot,none,none,none,cm,ct,0,0,0⟩,[],_,_,he,h3,(fun h=>by rw[hb] at h;cases h),by simp only[Sta.a,List.length_map,h1];rfl,rfl⟩
 ·obtain ⟨ar,cr,rfl⟩:=slF_form hr
  obtain ⟨ah,ch,rfl⟩:=slF_form hs
  obtain ⟨ae,ce,rfl⟩:=slF_form hv
  obtain ⟨L,hL⟩:∃L,L=M++rss (A::B::rows++.res (OwnR rcL 4 72 (.slice ar rs.length cr) rs)::.res (OwnR shL 6 78 (.slice ah ss.length ch) ss)::.res (OwnR evL 4 81 (.slice ae es.length ce) es)::G):=⟨_,rfl⟩
  have mr:OwnR rcL 4 72 (.slice ar rs.length cr) rs∈L:=by rw[hL];simp[rss,rsOf]
  have mh:OwnR shL 6 78 (.slice ah ss.length ch) ss∈L:=by rw[hL];simp[rss,rsOf]
  have me:OwnR evL 4 81 (.slice ae es.length ce) es∈L:=by rw[hL];simp[rss,rsOf]
  have mt:∀x∈tk',OwnR tC 10 96 (tkV x) x.l∈L:=fun x hx=>by
   rw[hL,hM]
   exact List.mem_append.2 (.inl (List.mem_map.2 ⟨x,hx,rfl⟩))
  rw[←hL]
  have hms:RdV Tryz.prog (Res.star L) 51 6 om mC (acc.map (·.1))∧RdV Tryz.prog (Res.star L) 52 1 ot tkV tk':=by
   rcases i with _|i
   ·obtain rfl:=List.eq_nil_of_length_eq_zero h1
    obtain rfl:=List.eq_nil_of_length_eq_zero h2
    exact ⟨RdV.nil,RdV.nil⟩
   ·obtain ⟨bm,om',cm',bt,ot',ct',e1,e2,rfl⟩:=h5
    injection e1 with e1
    injection e2 with e2
    subst e1 e2
    exact ⟨lay_rdv (enc:=mL) (by rw[hL];simp[rss,rsOf]) mL_len memty_ok,lay_rdc (by rw[hL];simp[rss,rsOf]) tksty_ok⟩
  refine ⟨⟨acc,rs,ss,t,es,p'⟩,s',⟨acc.map (fun m:Mem×List Tik=>m.1),i,rs,ss,⟨t.toArray⟩,es,p',om,ot,ar,ah,ae,cm,ct,cr,ch,ce⟩,tk',Res.star L,_,he,h3,fun _=>⟨⟨rfl,hq.symm,rfl,rfl,rfl,rfl,rfl⟩,⟨hms.1,own_rdv (enc:=rcL) mr hr rcL_len recty_ok,own_rdv (enc:=shL) mh hs shL_len shpty_ok,own_rdv (enc:=evL) me hv evL_len evnty_ok⟩,⟨h2.symm,hms.2,fun x hx=>own_rdv (enc:=tC) (c:=x.c) (mt x hx) (htk x hx) tC_len tikty_ok,fun x hx k hk=>?_⟩⟩,by simp only[Sta.a,List.length_map,h1],rfl⟩
  ·have h6:x.l∈acc.map (·.2):=by rw[hq];exact List.mem_map.2 ⟨x,hx,rfl⟩
   obtain ⟨m,hm,e⟩:=List.mem_map.1 h6
   exact sta_u he m hm k (by rw[e];exact hk)
def recsB(l:List Rcd):List UInt8:=l.flatMap fun x=>wB (recP x)
def shpsB(l:List Shp):List UInt8:=l.flatMap fun x=>wB (shpP x)
def evnsB(l:List Evn):List UInt8:=l.flatMap fun x=>wB (evnP x)
def memsB(ms:List Mem)(tk:List TkS):List UInt8:=(ms.zip tk).flatMap fun p=>memB p.1 p.2.l
def headB(q:Sta):List UInt8:=[q.past].flatMap (bs 8)++[(q.ms.length:Int)].flatMap (bs 2)
def preB(q:Sta)(tk:List TkS):List UInt8:=headB q++memsB q.ms tk++lenB 2 q.rs.length++recsB q.rs++lenB 2 q.ss.length++shpsB q.ss++[(q.s.length:Int)].flatMap (bs 2)++q.s++lenB 4 q.es.length++evnsB q.es
def staB(q:Sta)(tk:List TkS):List UInt8:=preB q tk++toBE 4 (sumN (preB q tk) % 4294967296)
structure StOk(q:Sta)(tk:List TkS):Prop where
 past:NumOk 8 q.past
 ml:q.ms.length≤60000
 tl:tk.length=q.ms.length
 ms:∀i (h:i<q.ms.length) (h2:i<tk.length),MemOk q.ms[i] tk[i].l
 rl:q.rs.length≤60000
 rs:∀x∈q.rs,wOk (recP x)
 sl:q.ss.length≤60000
 ss:∀x∈q.ss,wOk (shpP x)
 xl:q.s.length≤60000
 el:q.es.length≤60000
 es:∀x∈q.es,wOk (evnP x)
theorem num2{n:Nat}(h:n≤60000):NumOk 2 (n:Int):=⟨by omega,by show (n:Int)<65536;omega,by omega⟩
theorem num4{n:Nat}(h:n≤60000):NumOk 4 (n:Int):=⟨by omega,by show (n:Int)<4294967296;omega,by omega⟩
theorem mems_step{ms:List Mem}{tk:List TkS}{i:Nat}(h1:i<ms.length)(h2:i<tk.length):memsB (ms.take (i+1)) (tk.take (i+1))=memsB (ms.take i) (tk.take i)++memB ms[i] tk[i].l:=by
 unfold memsB
 rw[take_snoc h1,take_snoc h2,List.zip_append (by simp;omega),List.flatMap_append]
 simp
theorem mems_len{ms:List Mem}{tk:List TkS}(hk:∀i (h:i<ms.length) (h2:i<tk.length),MemOk ms[i] tk[i].l):∀i,i≤ms.length→i≤tk.length→(memsB (ms.take i) (tk.take i)).length≤i * 300
 | 0,_,_=>by simp[memsB]
 | i+1,h1,h2=>by
   have h3:=mems_len hk i (by omega) (by omega)
   have h4:=mem_len (m:=ms[i]) (hk i (by omega) (by omega)).2.2.1
   rw[mems_step (by omega) (by omega),List.length_append]
   omega
theorem pre_eq{q:Sta}{tk:List TkS}{d0 d1 d2 d3 d4 d5 d6 d7:List UInt8}(h7:d7=d6++lenB 4 q.es.length++q.es.flatMap fun x=>wB (evnP x))(h6:d6=d5++q.s)(h5:d5=d4++[(q.s.length:Int)].flatMap (bs 2))(h4:d4=d3++lenB 2 q.ss.length++q.ss.flatMap fun x=>wB (shpP x))(h3:d3=d2++lenB 2 q.rs.length++q.rs.flatMap fun x=>wB (recP x))(h2:d1++memsB q.ms tk=d2)(h1:d1=d0++[(q.ms.length:Int)].flatMap (bs 2))(h0:d0=[]++[q.past].flatMap (bs 8)):d7=preB q tk:=by
 rw[h7,h6,h5,h4,h3,←h2,h1,h0]
 unfold preB headB recsB shpsB evnsB
 rw[List.nil_append]
theorem wstate1{R:Res}{q:Sta}{tk:List TkS}{v:Value}(hv:SlF v ([]:List UInt8))(h:q.Rd R)(hk:q.Tk R tk)(ho:StOk q tk) :
  CP [] 28 [.ptr 0 0,.agg q.a] (wrH v []++[.res R]) (fun u H'=>u=undefV∧∃v' d G,d=staB q tk∧SlF v' d∧H'=wrH v' d++.res R::G):=by
 have q0:∀y∈[q.past],NumOk 8 y:=fun y hy=>by rw[List.mem_singleton.1 hy];exact ho.past
 have q1:∀y∈[(q.ms.length:Int)],NumOk 2 y:=fun y hy=>by rw[List.mem_singleton.1 hy];exact num2 ho.ml
 have hml:=ho.ml
 have htl:=ho.tl
 refine fn_ok ev_ok rfl ?_
 refine FnW.of rfl rfl ?_
 refine WpC.seqG fun F hF=>?_
 repeat' ((conv=>whnf);first|with_reducible apply brP_of<;>intro _|refine WpS.drawn ev_ok rfl rfl ?_|with_reducible refine And.intro (AgP.mk ⟨_,rfl,rfl⟩) ?_|(refine (wput (k:=8) (xs:=[q.past]) (by assumption) (by decide) (by decide) q0 (by simp) (by simp)).use [0,1,4] rfl rfl ⟨⟨_,rfl,rfl⟩,⟨_,rfl,kp⟩,⟨_,rfl,rfl⟩,tU⟩ ?_;rintro _ _ ⟨rfl,v',d,G,hd,hv',rfl⟩;have hdl:=congrArg List.length hd;simp only[len_put,len_long,List.length_cons,List.length_nil] at hdl;refine ⟨[],?_⟩)|(refine (wput (k:=2) (xs:=[(q.ms.length:Int)]) (by assumption) (by decide) (by decide) q1 (by simp) (by omega)).use [0,1,5] rfl rfl ⟨⟨_,rfl,rfl⟩,⟨_,rfl,kp⟩,⟨_,rfl,rfl⟩,tU⟩ ?_;rintro _ _ ⟨rfl,v',d,G,hd,hv',rfl⟩;have hdl:=congrArg List.length hd;simp only[len_put,len_long,List.length_cons,List.length_nil] at hdl;refine ⟨[],?_⟩)|(show F _ _ _;subst hF;refine WpC.seqG fun F hF=>?_)|(show F _ _ _;subst hF))
 refine loopP ev_ok rfl (fun s:WrS=>[(0,.ptr 0 0),(3,.ptr 3 0),(18,.lit (.slice q.om q.ms.length q.cm)),(19,iA q.ms.length),(20,iA (s.i:Nat))]) (fun s=>wrH s.v (d++memsB (q.ms.take s.i) (tk.take s.i))++[.res R,.cells q.a 28])
  (fun s=>s.i≤q.ms.length∧SlF s.v (d++memsB (q.ms.take s.i) (tk.take s.i))) (fun s=>q.ms.length - s.i) ⟨0,v'⟩ ⟨Nat.zero_le _,by simpa [memsB] using hv'⟩ [0,1,2,3] ?_ ?_
 ·exact ⟨rfl,⟨⟨rfl,rfl⟩,⟨rfl,rfl⟩,⟨rfl,rfl⟩,⟨rfl,rfl⟩,⟨rfl,rfl⟩,tU⟩,⟨⟨_,rfl,rfl⟩,⟨_,rfl,by simp only[List.take_zero,memsB,List.zip_nil_left,List.flatMap_nil,List.append_nil];exact fun _ _ h=>h⟩,⟨_,rfl,kp⟩,⟨_,rfl,rfl⟩,tU⟩⟩
 ·rintro ⟨i,v⟩ ⟨hi0,hv⟩
  simp only[] at hi0 hv
  by_cases hi:i<q.ms.length
  ·have hi2:i<tk.length:=by omega
   obtain ⟨a1,ha1,hrd1⟩:=h.ms.at hi
   obtain ⟨a2,ha2,hrd2⟩:=hk.rd.at hi2
   have hlen:=mems_len ho.ms i hi0 (by omega)
   have hmo:=ho.ms i hi hi2
   have hel:=hk.el _ (List.getElem_mem hi2)
   have hnt:=hk.nt
   have hll:(d++memsB (q.ms.take i) (tk.take i)).length≤600000000:=by rw[List.length_append];omega
   simp only[ha1,ha2,hnt,Sta.a]
   conv=>whnf
   refine brP_of (fun _=>?_) (noF hi)
   repeat' ((conv=>whnf);first|with_reducible apply brP_of<;>intro _|refine WpS.tail ev_ok 7 rfl (by kernel_rfl) ?_|refine RdP.idxL ev_ok rfl rfl rfl rfl rfl hi2 ?_|refine RdP.loadR (i:=2) (v:=.lit (tkV tk[i])) rfl (fun w S hR=>hrd2 w S hR i hi2) rfl rfl ?_|refine RdP.pure ev_ok rfl ?_|refine RdP.read ev_ok rfl ?_|refine OpP.idxL ev_ok rfl rfl rfl rfl rfl hi ?_|refine OpP.loadR (i:=2) (v:=.agg (mA q.ms[i])) rfl (fun w S hR=>hrd1 w S hR i hi) rfl rfl ?_|(refine (wmember hv hel hmo hll rfl).use [0,1,2] rfl rfl ⟨⟨_,rfl,rfl⟩,⟨_,rfl,kp⟩,⟨_,rfl,kp⟩,tU⟩ ?_;rintro _ _ ⟨rfl,v',d',G,hd',hv',rfl⟩;refine ⟨[],?_⟩))
   all_goals (try conv=>whnf)
   have e:d++memsB (q.ms.take (i+1)) (tk.take (i+1))=d':=by rw[mems_step hi hi2,hd',List.append_assoc]
   refine ⟨⟨i+1,v'⟩,[0,1,2,3],⟨⟨hi,by show SlF v' (d++memsB (q.ms.take (i+1)) (tk.take (i+1)));rw[e];exact hv'⟩,by show q.ms.length - (i+1)<q.ms.length - i;omega⟩,rfl,⟨⟨rfl,rfl⟩,⟨rfl,rfl⟩,⟨rfl,rfl⟩,⟨rfl,rfl⟩,⟨rfl,subInt rfl (wrap_in (by omega) (by omega))⟩,tU⟩,⟨⟨_,rfl,rfl⟩,⟨_,rfl,?_⟩,⟨_,rfl,kp⟩,⟨_,rfl,rfl⟩,tU⟩⟩
   show ∀w S,(OwnR byC 1 tBy v' _).at_ w S→(OwnR byC 1 tBy v' (d++memsB (q.ms.take (i+1)) (tk.take (i+1)))).at_ w S
   rw[e]
   exact fun _ _ h=>h
  ·obtain rfl:i=q.ms.length:=by omega
   have htk:tk.take q.ms.length=tk:=by rw[←htl];exact List.take_length
   have hlen:=mems_len ho.ms q.ms.length (Nat.le_refl _) (by omega)
   rw[List.take_length,htk] at hv hlen
   have q2:∀y∈[(q.s.length:Int)],NumOk 2 y:=fun y hy=>by rw[List.mem_singleton.1 hy];exact num2 ho.xl
   have e0:d++memsB (q.ms.take q.ms.length) (tk.take q.ms.length)=d++memsB q.ms tk:=by rw[List.take_length,htk]
   obtain ⟨d1,hd1⟩:∃d1,d++memsB q.ms tk=d1:=⟨_,rfl⟩
   have hd1l:=congrArg List.length hd1
   rw[List.length_append] at hd1l
   have hrl:=ho.rl
   have hsl:=ho.sl
   have hxl:=ho.xl
   have hel:=ho.el
   simp only[e0,hd1]
   rw[hd1] at hv
   simp only[Sta.a]
   conv=>whnf
   refine brP_of (noT hi) (fun _=>?_)
   repeat' ((conv=>whnf);first|with_reducible apply brP_of<;>intro _|refine WpS.drawn ev_ok rfl rfl ?_|with_reducible refine And.intro (AgP.mk ⟨_,rfl,rfl⟩) ?_|(refine (weachR (m:=q.cr) (by assumption) h.rs ho.rs (num2 ho.rl) ho.rl (by omega)).use [0,1,2] rfl rfl ⟨⟨_,rfl,rfl⟩,⟨_,rfl,kp⟩,⟨_,rfl,kp⟩,tU⟩ ?_;rintro _ _ ⟨rfl,v',d,G,hd,hv',rfl⟩;have hdl:=congrArg List.length hd;rw[List.length_append,List.length_append,lenB_len,flat_by (fun r=>rec_len r)] at hdl;refine ⟨[],?_⟩)|(refine (weachS (m:=q.cs) (by assumption) h.ss ho.ss (num2 ho.sl) ho.sl (by omega)).use [0,1,2] rfl rfl ⟨⟨_,rfl,rfl⟩,⟨_,rfl,kp⟩,⟨_,rfl,kp⟩,tU⟩ ?_;rintro _ _ ⟨rfl,v',d,G,hd,hv',rfl⟩;have hdl:=congrArg List.length hd;rw[List.length_append,List.length_append,lenB_len,flat_by (fun r=>shp_len r)] at hdl;refine ⟨[],?_⟩)|(refine (wput (k:=2) (xs:=[(q.s.length:Int)]) (by assumption) (by decide) (by decide) q2 (by simp) (by omega)).use [0,1,4] rfl rfl ⟨⟨_,rfl,rfl⟩,⟨_,rfl,kp⟩,⟨_,rfl,rfl⟩,tU⟩ ?_;rintro _ _ ⟨rfl,v',d,G,hd,hv',rfl⟩;have hdl:=congrArg List.length hd;simp only[len_put,len_long,List.length_cons,List.length_nil] at hdl;refine ⟨[],?_⟩)|(obtain ⟨A5,n5,rfl⟩:=slF_ne hv' (by intro e;have:=congrArg List.length e;simp only[List.length_nil] at this;omega))|(refine OpP.om (OpM.appStr (l:=d) (tx:=q.s) (i:=1) (R1:=resNil) (R':=fun v'=>OwnR byC 1 tBy v' (d++q.s)) rfl rfl rfl rfl wr_split (fun v'=>wr_join) (by omega) fun v' hv'=>?_);obtain ⟨d,hd⟩:∃d',d'=d++q.s:=⟨_,rfl⟩;have hdl:=congrArg List.length hd;rw[List.length_append] at hdl;rw[←hd] at hv' ⊢)|(refine (weachE (m:=q.ce) (by assumption) h.es ho.es (num4 ho.el) ho.el (by omega)).use [0,1,2] rfl rfl ⟨⟨_,rfl,rfl⟩,⟨_,rfl,kp⟩,⟨_,rfl,kp⟩,tU⟩ ?_;rintro _ _ ⟨rfl,v',d,G,hd,hv',rfl⟩;have hdl:=congrArg List.length hd;rw[List.length_append,List.length_append,lenB_len,flat_by (fun r=>evn_len r)] at hdl;refine ⟨[],?_⟩)|(refine (ssum (m:=n5) (by omega)).use [1] rfl rfl ⟨⟨_,rfl,kp⟩,tU⟩ ?_;rintro _ _ ⟨rfl,G,rfl⟩;refine ⟨[],?_⟩)|(refine (wlong (k:=4) (n:=sumN d % 4294967296) (v:=.slice (some A5) d.length n5) hv' (by decide) (by decide) (Nat.lt_trans (Nat.mod_lt _ (by decide)) (by decide)) (Nat.lt_of_lt_of_eq (Nat.mod_lt _ (by decide)) (by decide)) (by omega)).use [0,1] rfl rfl ⟨⟨_,rfl,rfl⟩,⟨_,rfl,kp⟩,tU⟩ ?_;rintro _ _ ⟨rfl,v',d2,G,hd2,hv2,rfl⟩;refine ⟨[],?_⟩)|(show F _ _ _;subst hF;refine WpC.seqG fun F hF=>?_)|(show F _ _ _;subst hF))
   all_goals (try conv=>whnf)
   have hpre:d=preB q tk:=pre_eq hd (by assumption) (by assumption) (by assumption) (by assumption) hd1 (by assumption) (by assumption)
   refine ⟨rfl,_,_,_,?_,by assumption,rfl⟩
   rw[hd2,hpre]
   rfl
end Go.Proofs.YtmbdghclhpboaaaGreat
