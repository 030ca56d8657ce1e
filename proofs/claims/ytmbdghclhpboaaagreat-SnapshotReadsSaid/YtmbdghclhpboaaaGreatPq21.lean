/- Part of the proof: Ten. Conditions: as each states. -/
import Derived.Test.YtmbdghclhpboaaaGreatPq20
set_option linter.all false
set_option maxRecDepth 100000
namespace Go.Proofs.YtmbdghclhpboaaaGreat
open Ev
theorem p9:iO ev 187 3 1:=⟨⟨_,rfl,rfl⟩,_,_,rfl,rfl,rfl,rfl,by decide⟩
structure bW where
  id:Int
  x:Int
  y:Int
  label:Int
def yS(r:bW):Value:=.agg #[.int .i64 r.id,.int .i64 r.x,.int .i64 r.y,.int .i64 r.label]
def lE(r:bW):List AV:=[iA r.id,iA r.x,iA r.y,iA r.label]
structure df where
  id:Int
  x0:Int
  y0:Int
  x1:Int
  y1:Int
  label:Int
def JK(s:df):Value:=.agg #[.int .i64 s.id,.int .i64 s.x0,.int .i64 s.y0,.int .i64 s.x1,.int .i64 s.y1,.int .i64 s.label]
def pG(s:df):List AV:=[iA s.id,iA s.x0,iA s.y0,iA s.x1,iA s.y1,iA s.label]
theorem WL{S:List Nat}{H:List ai}{K:AV->List ai->Prop}{m:Mem}(k:K (iA m.user) H):CP S 201 [.agg (mA m)] H K:=by
  refine aj.pure ?_ (fun _=>rfl) (fun _=>rfl) k;refine ag aa rfl ?_;repeat' ((conv=>whnf);first|with_reducible apply af<;>intro _|refine ag aa rfl ?_)
  all_goals first|rfl|(conv=>whnf)
theorem J1 {R : aC} {oa : Option Addr} {n c : Nat} {l : List Mem} (hn : l.length = n) (hl : n <= 60000) (h : cU Tryz.prog R 51 6 oa mC l) :
    CP [] 200 [.lit (.slice oa n c),.lit (.func (.func 201) #[] #[])] [.res R] (fun v H'=>v=sx 1 1 n/\H'=.res R::Al (l.map fun m=>iK m.user) 3 n):=by
  refine ag aa rfl ?_;conv=>whnf
  refine aV aa rfl (fun k:Nat=>[(1,.lit (.func (.func 201) #[] #[])),(8,.lit (.slice oa n c)),(9,iA n),(10,iA (k:Nat)),(5,sx 1 1 k)]) (fun k=>.res R::Al ((l.take k).map fun m=>iK m.user) 3 k) (·<=n) (fun k=>n - k) 0 (Nat.zero_le _) [0] ?_ ?_
  · exact ⟨rfl,⟨rr,rr,rr,rr,rr,tU⟩,⟨ko,tU⟩⟩
  · intro k gl
    by_cases hk:k<n
    · have cT:k<l.length:=by omega
      have hs:=bq cT
      obtain ⟨a,rfl,bu⟩:=h.at cT
      rcases k with _|k
      all_goals
        conv=>whnf
        refine af (fun _=>?_) (bT hk)
        conv=>whnf
        refine al.bC aa rfl rfl rfl rfl rfl hk ?_
        conv=>whnf
        refine al.aR (i:=0) (v:=.agg (mA l[_])) rfl (fun w S hR=>bu w S hR _ cT) rfl rfl ?_
        conv=>whnf
        refine WL ?_
        conv=>whnf
        first
          | refine dx.nil p9 rfl rfl rfl rfl rfl ?_
          | refine dx.own p9 rfl rfl rfl rfl rfl rfl (by simp;omega) (by omega) ?_
        conv=>whnf
      · exact ⟨1,[0,3],⟨hk,by omega⟩,rfl,⟨rr,rr,rr,⟨rfl,ax rfl rfl⟩,⟨rfl,rfl⟩,tU⟩,⟨ko,⟨_,rfl,by rw[hs];rfl⟩,tU⟩⟩
      · exact ⟨k+2,[0,4],⟨hk,by omega⟩,rfl,⟨rr,rr,rr,⟨rfl,ax rfl (ak (by omega) (by omega))⟩,⟨rfl,rfl⟩,tU⟩,⟨ko,⟨_,rfl,by rw[hs,List.map_append];rfl⟩,tU⟩⟩
    · obtain rfl:k=n:=by omega
      have ht:l.take k=l:=by rw[<-hn,List.take_length]
      rcases k with _|k
      · conv=>whnf
        rw[ht]
        exact ⟨rfl,rfl⟩
      · conv=>whnf
        refine af (cF hk) (fun _=>?_)
        conv=>whnf
        rw[ht]
        exact ⟨rfl,rfl⟩
theorem WM{S:List Nat}{H:List ai}{K:AV->List ai->Prop}{m:bW}(k:K (iA m.id) H):CP S 207 [.agg (lE m)] H K:=by
  refine aj.pure ?_ (fun _=>rfl) (fun _=>rfl) k;refine ag aa rfl ?_;repeat' ((conv=>whnf);first|with_reducible apply af<;>intro _|refine ag aa rfl ?_)
  all_goals first|rfl|(conv=>whnf)
theorem M4 {R : aC} {oa : Option Addr} {n c : Nat} {l : List bW} (hn : l.length = n) (hl : n <= 60000) (h : cU Tryz.prog R 72 4 oa yS l) :
    CP [] 206 [.lit (.slice oa n c),.lit (.func (.func 207) #[] #[])] [.res R] (fun v H'=>v=sx 1 1 n/\H'=.res R::Al (l.map fun m=>iK m.id) 3 n):=by
  refine ag aa rfl ?_;conv=>whnf
  refine aV aa rfl (fun k:Nat=>[(1,.lit (.func (.func 207) #[] #[])),(8,.lit (.slice oa n c)),(9,iA n),(10,iA (k:Nat)),(5,sx 1 1 k)]) (fun k=>.res R::Al ((l.take k).map fun m=>iK m.id) 3 k) (·<=n) (fun k=>n - k) 0 (Nat.zero_le _) [0] ?_ ?_
  · exact ⟨rfl,⟨rr,rr,rr,rr,rr,tU⟩,⟨ko,tU⟩⟩
  · intro k gl
    by_cases hk:k<n
    · have cT:k<l.length:=by omega
      have hs:=bq cT
      obtain ⟨a,rfl,bu⟩:=h.at cT
      rcases k with _|k
      all_goals
        conv=>whnf
        refine af (fun _=>?_) (bT hk)
        conv=>whnf
        refine al.bC aa rfl rfl rfl rfl rfl hk ?_
        conv=>whnf
        refine al.aR (i:=0) (v:=.agg (lE l[_])) rfl (fun w S hR=>bu w S hR _ cT) rfl rfl ?_
        conv=>whnf
        refine WM ?_
        conv=>whnf
        first
          | refine dx.nil p9 rfl rfl rfl rfl rfl ?_
          | refine dx.own p9 rfl rfl rfl rfl rfl rfl (by simp;omega) (by omega) ?_
        conv=>whnf
      · exact ⟨1,[0,3],⟨hk,by omega⟩,rfl,⟨rr,rr,rr,⟨rfl,ax rfl rfl⟩,⟨rfl,rfl⟩,tU⟩,⟨ko,⟨_,rfl,by rw[hs];rfl⟩,tU⟩⟩
      · exact ⟨k+2,[0,4],⟨hk,by omega⟩,rfl,⟨rr,rr,rr,⟨rfl,ax rfl (ak (by omega) (by omega))⟩,⟨rfl,rfl⟩,tU⟩,⟨ko,⟨_,rfl,by rw[hs,List.map_append];rfl⟩,tU⟩⟩
    · obtain rfl:k=n:=by omega
      have ht:l.take k=l:=by rw[<-hn,List.take_length]
      rcases k with _|k
      · conv=>whnf
        rw[ht]
        exact ⟨rfl,rfl⟩
      · conv=>whnf
        refine af (cF hk) (fun _=>?_)
        conv=>whnf
        rw[ht]
        exact ⟨rfl,rfl⟩
theorem WN{S:List Nat}{H:List ai}{K:AV->List ai->Prop}{m:df}(k:K (iA m.id) H):CP S 209 [.agg (pG m)] H K:=by
  refine aj.pure ?_ (fun _=>rfl) (fun _=>rfl) k;refine ag aa rfl ?_;repeat' ((conv=>whnf);first|with_reducible apply af<;>intro _|refine ag aa rfl ?_)
  all_goals first|rfl|(conv=>whnf)
theorem M5 {R : aC} {oa : Option Addr} {n c : Nat} {l : List df} (hn : l.length = n) (hl : n <= 60000) (h : cU Tryz.prog R 78 6 oa JK l) :
    CP [] 208 [.lit (.slice oa n c),.lit (.func (.func 209) #[] #[])] [.res R] (fun v H'=>v=sx 1 1 n/\H'=.res R::Al (l.map fun m=>iK m.id) 3 n):=by
  refine ag aa rfl ?_;conv=>whnf
  refine aV aa rfl (fun k:Nat=>[(1,.lit (.func (.func 209) #[] #[])),(8,.lit (.slice oa n c)),(9,iA n),(10,iA (k:Nat)),(5,sx 1 1 k)]) (fun k=>.res R::Al ((l.take k).map fun m=>iK m.id) 3 k) (·<=n) (fun k=>n - k) 0 (Nat.zero_le _) [0] ?_ ?_
  · exact ⟨rfl,⟨rr,rr,rr,rr,rr,tU⟩,⟨ko,tU⟩⟩
  · intro k gl
    by_cases hk:k<n
    · have cT:k<l.length:=by omega
      have hs:=bq cT
      obtain ⟨a,rfl,bu⟩:=h.at cT
      rcases k with _|k
      all_goals
        conv=>whnf
        refine af (fun _=>?_) (bT hk)
        conv=>whnf
        refine al.bC aa rfl rfl rfl rfl rfl hk ?_
        conv=>whnf
        refine al.aR (i:=0) (v:=.agg (pG l[_])) rfl (fun w S hR=>bu w S hR _ cT) rfl rfl ?_
        conv=>whnf
        refine WN ?_
        conv=>whnf
        first
          | refine dx.nil p9 rfl rfl rfl rfl rfl ?_
          | refine dx.own p9 rfl rfl rfl rfl rfl rfl (by simp;omega) (by omega) ?_
        conv=>whnf
      · exact ⟨1,[0,3],⟨hk,by omega⟩,rfl,⟨rr,rr,rr,⟨rfl,ax rfl rfl⟩,⟨rfl,rfl⟩,tU⟩,⟨ko,⟨_,rfl,by rw[hs];rfl⟩,tU⟩⟩
      · exact ⟨k+2,[0,4],⟨hk,by omega⟩,rfl,⟨rr,rr,rr,⟨rfl,ax rfl (ak (by omega) (by omega))⟩,⟨rfl,rfl⟩,tU⟩,⟨ko,⟨_,rfl,by rw[hs,List.map_append];rfl⟩,tU⟩⟩
    · obtain rfl:k=n:=by omega
      have ht:l.take k=l:=by rw[<-hn,List.take_length]
      rcases k with _|k
      · conv=>whnf
        rw[ht]
        exact ⟨rfl,rfl⟩
      · conv=>whnf
        refine af (cF hk) (fun _=>?_)
        conv=>whnf
        rw[ht]
        exact ⟨rfl,rfl⟩
def Mem.dF(m:Mem):Bool:=if m.user=0 then decide (m.role=0/\m.jo=0/\m.fL=65535/\m.k=0/\m.cu=0)
  else Mem.right { m with k:=0,cu:=0 }&&(decide (m.k=0/\m.cu=0) || decide (1<=m.k/\m.k<=65535))
theorem Ks{S:List Nat}{H:List ai}{K:AV->List ai->Prop}{m:Mem}(k:K (bA m.dF) H):CP S 205 [.agg (mA m)] H K:=by
  refine aj.pure ?_ (fun _=>rfl) (fun _=>rfl) k;refine ag aa rfl ?_;repeat' ((conv=>whnf);first|with_reducible apply af<;>intro _|refine MK (m:={ m with k:=0,cu:=0 }) ?_|refine ag aa rfl ?_)
  all_goals
    refine bc ?_
    unfold Mem.dF
    simp_all
  all_goals omega
theorem qK{a b:Int}(h:a=b/\-9223372036854775808<=b/\b<=9223372036854775807):IntKind.i64.wrap a=b:=by rw[h.1];exact ak h.2.1 h.2.2
def im:Int->List Int->Bool
  | _,[]=>true
  | p,x::r=>decide (p<x)&&im x r
def cP:List Int->Bool
  | []=>true
  | x::r=>im x r
theorem drop_cons{α:Type}{l:List α}{k:Nat}(h:k<l.length):l.drop k=l[k]::l.drop (k+1):=List.drop_eq_getElem_cons h
theorem nz{n:Nat}{l:List Int}{c:pe}(hn:l.length=n+1)(hl:n<=60000):CP [] 202 [.slice 0 0 (n+1) c] [.row (l.map iK) 3] (fun v H'=>v=bA (cP l)/\H'=[.row (l.map iK) 3]):=by
  refine ag aa rfl ?_;conv=>whnf
  refine aV aa rfl (fun k:Nat=>[(0,.slice 0 0 (n+1) c),(3,iA ((k+1:Nat):Int))]) (fun _=>[.row (l.map iK) 3]) (fun k=>k<=n/\∀h:k<l.length,cP l=im l[k] (l.drop (k+1))) (fun k=>n - k) 0 ⟨Nat.zero_le _,fun h=>?_⟩ [0] ?_ ?_
  · cases l with
    | nil=>simp at hn
    | cons x r=>rfl
  · exact ⟨rfl,⟨rr,rr,tU⟩,⟨⟨_,rfl,rfl⟩,tU⟩⟩
  · rintro k ⟨gl,hr⟩
    have hr:=hr (by omega)
    by_cases hk:k+1<n+1
    · have cT:k+1<l.length:=by omega
      rw[drop_cons cT] at hr
      simp only[im] at hr
      conv=>whnf
      refine af (fun _=>?_) (bT hk)
      repeat' ((conv=>whnf);first|with_reducible apply af<;>intro _|refine aM.drawn aa rfl rfl ?_|with_reducible refine And.intro (aN.mk ⟨_,rfl,rfl⟩) ?_|refine aO.of (k:=k+1) rfl hk ?_|refine aO.of (k:=k) (qK (by omega)) (by omega) ?_|refine dL.val (i:=k+1) cT ?_|refine dL.val (i:=k) (by omega) ?_|refine ag aa rfl ?_)
      all_goals conv=>whnf
      · rename_i h
        have h:=dT1 h
        exact ⟨bc (by rw[hr,decide_eq_false (by omega)];rfl),rfl⟩
      · rename_i h
        have h:=dF1 h
        exact ⟨k+1,[0],⟨⟨by omega,fun _=>by rw[hr,decide_eq_true (by omega),Bool.true_and]⟩,by omega⟩,rfl,⟨rr,⟨rfl,ax rfl (qK (by omega))⟩,tU⟩,⟨⟨_,rfl,rfl⟩,tU⟩⟩
    · obtain rfl:k=n:=by omega
      rw[show l.drop (k+1)=[] by rw[<-hn,List.drop_length]] at hr
      conv=>whnf
      refine af (cF hk) (fun _=>?_)
      conv=>whnf
      exact ⟨bc hr.symm,rfl⟩
theorem Kr{n:Nat}{l:List Int}{x:Int}{c:pe}(hn:l.length=n+1)(hl:n<=60000):CP [] 211 [.slice 0 0 (n+1) c,iA x] [.row (l.map iK) 3] (fun v H'=>v=bA (l.any fun y=>x==y)/\H'=[.row (l.map iK) 3]):=by
  refine ag aa rfl ?_;conv=>whnf
  refine ag aa rfl ?_;conv=>whnf
  refine aV aa rfl (fun k:Nat=>[(0,.slice 0 0 (n+1) c),(1,iA x),(7,iA ((n+1:Nat):Int)),(8,iA (k:Nat))]) (fun _=>[.row (l.map iK) 3]) (fun k=>k<=n+1/\(l.any fun y=>x==y)=((l.drop k).any fun y=>x==y)) (fun k=>n+1 - k) 0 ⟨Nat.zero_le _,rfl⟩ [0] ?_ ?_
  · exact ⟨rfl,⟨rr,rr,rr,rr,tU⟩,⟨⟨_,rfl,rfl⟩,tU⟩⟩
  · rintro k ⟨gl,hr⟩
    by_cases hk:k<n+1
    · have cT:k<l.length:=by omega
      rw[drop_cons cT,List.any_cons] at hr
      conv=>whnf
      refine af (fun _=>?_) (bT hk)
      repeat' ((conv=>whnf);first|with_reducible apply af<;>intro _|refine aO.of rfl hk ?_|refine dL.val cT ?_|refine ag aa rfl ?_)
      all_goals (try conv=>whnf)
      · rename_i h
        exact ⟨bc (by rw[hr,h];rfl),rfl⟩
      · rename_i h
        exact ⟨k+1,[0],⟨⟨hk,by rw[hr,h,Bool.false_or]⟩,by omega⟩,rfl,⟨rr,rr,rr,⟨rfl,ax rfl (ak (by omega) (by omega))⟩,tU⟩,⟨⟨_,rfl,rfl⟩,tU⟩⟩
    · obtain rfl:k=n+1:=by omega
      rw[show l.drop (n+1)=[] by rw[<-hn,List.drop_length]] at hr
      conv=>whnf
      refine af (cF hk) (fun _=>?_)
      conv=>whnf
      exact ⟨bc hr.symm,rfl⟩
structure fS where
  user:Int
  op:Int
  status:Int
  tick:Int
def Px(e:fS):Value:=.agg #[.int .i64 e.user,.int .i64 e.op,.int .i64 e.status,.int .i64 e.tick]
def Bt(e:fS):List AV:=[iA e.user,iA e.op,iA e.status,iA e.tick]
def fS.eD(e:fS):Bool:=decide (0<=e.user/\e.user<=65535/\1<=e.op/\e.op<=19/\0<=e.status/\e.status<=12/\0<=e.tick/\e.tick<=4294967295)
theorem PE{S:List Nat}{H:List ai}{K:AV->List ai->Prop}{m:fS}(k:K (bA (!m.eD)) H):CP S 124 [.agg (Bt m)] H K:=by
  refine aj.pure ?_ (fun _=>rfl) (fun _=>rfl) k;refine ag aa rfl ?_;repeat' ((conv=>whnf);first|with_reducible apply af<;>intro _|refine ag aa rfl ?_)
  all_goals
    refine bc ?_
    unfold fS.eD
    simp_all
  all_goals omega
theorem PD{S:List Nat}{H:List ai}{K:AV->List ai->Prop}{m:Mem}(k:K (bA (!m.dF)) H):CP S 204 [.agg (mA m)] H K:=by
  refine aj.pure ?_ (fun _=>rfl) (fun _=>rfl) k;refine ag aa rfl ?_;repeat' ((conv=>whnf);first|with_reducible apply af<;>intro _|refine Ks ?_|refine ag aa rfl ?_)
  all_goals
    refine bc ?_
    simp_all
theorem FE {R : aC} {oa : Option Addr} {n c : Nat} {l : List Mem} (hn : l.length = n) (hl : n <= 4611686018427387904) (h : cU Tryz.prog R 51 6 oa mC l) :
    CP [] 203 [.lit (.slice oa n c),.lit (.func (.func 204) #[] #[])] [.res R] (fun v H'=>v=bA (l.any fun m=>!m.dF)/\H'=[.res R]):=by
  refine ag aa rfl ?_;conv=>whnf
  refine ag aa rfl ?_;conv=>whnf
  refine aV aa rfl (fun k:Nat=>[(0,.lit (.slice oa n c)),(1,.lit (.func (.func 204) #[] #[])),(7,iA (n:Nat)),(8,iA (k:Nat))]) (fun _=>[.res R]) (fun k=>k<=n/\(l.any fun m=>!m.dF)=((l.drop k).any fun m=>!m.dF)) (fun k=>n - k) 0 ⟨Nat.zero_le _,rfl⟩ [0] ?_ ?_
  · exact ⟨rfl,⟨rr,rr,rr,rr,tU⟩,⟨ko,tU⟩⟩
  · rintro k ⟨gl,hr⟩
    by_cases hk:k<n
    · have cT:k<l.length:=by omega
      obtain ⟨a,rfl,bu⟩:=h.at cT
      rw[drop_cons cT,List.any_cons] at hr
      conv=>whnf
      refine af (fun _=>?_) (bT hk)
      repeat' ((conv=>whnf);first|with_reducible apply af<;>intro _|refine al.bC aa rfl rfl rfl rfl rfl hk ?_|refine al.aR (i:=0) (v:=.agg (mA l[k])) rfl (fun w S hR=>bu w S hR k cT) rfl rfl ?_|refine PD ?_|refine ag aa rfl ?_)
      all_goals (try conv=>whnf)
      · rename_i h
        exact ⟨bc (by rw[hr,h];rfl),rfl⟩
      · rename_i h
        exact ⟨k+1,[0],⟨⟨hk,by rw[hr,h,Bool.false_or]⟩,by omega⟩,rfl,⟨rr,rr,rr,⟨rfl,ax rfl (ak (by omega) (by omega))⟩,tU⟩,⟨ko,tU⟩⟩
    · obtain rfl:k=n:=by omega
      rw[show l.drop k=[] by rw[<-hn,List.drop_length]] at hr
      have hz:((k:Nat):Int)<(k:Nat)->False:=fun h=>by omega
      conv=>whnf
      first
        | exact ⟨bc hr.symm,rfl⟩
        | (refine af (cF hk) (fun _ => ?_)
           conv=>whnf
           exact ⟨bc hr.symm,rfl⟩)
theorem Ws {R : aC} {oa : Option Addr} {n c : Nat} {l : List fS} (hn : l.length = n) (hl : n <= 4611686018427387904) (h : cU Tryz.prog R 81 4 oa Px l) :
    CP [] 123 [.lit (.slice oa n c),.lit (.func (.func 124) #[] #[])] [.res R] (fun v H'=>v=bA (l.any fun m=>!m.eD)/\H'=[.res R]):=by
  refine ag aa rfl ?_;conv=>whnf
  refine ag aa rfl ?_;conv=>whnf
  refine aV aa rfl (fun k:Nat=>[(0,.lit (.slice oa n c)),(1,.lit (.func (.func 124) #[] #[])),(7,iA (n:Nat)),(8,iA (k:Nat))]) (fun _=>[.res R]) (fun k=>k<=n/\(l.any fun m=>!m.eD)=((l.drop k).any fun m=>!m.eD)) (fun k=>n - k) 0 ⟨Nat.zero_le _,rfl⟩ [0] ?_ ?_
  · exact ⟨rfl,⟨rr,rr,rr,rr,tU⟩,⟨ko,tU⟩⟩
  · rintro k ⟨gl,hr⟩
    by_cases hk:k<n
    · have cT:k<l.length:=by omega
      obtain ⟨a,rfl,bu⟩:=h.at cT
      rw[drop_cons cT,List.any_cons] at hr
      conv=>whnf
      refine af (fun _=>?_) (bT hk)
      repeat' ((conv=>whnf);first|with_reducible apply af<;>intro _|refine al.bC aa rfl rfl rfl rfl rfl hk ?_|refine al.aR (i:=0) (v:=.agg (Bt l[k])) rfl (fun w S hR=>bu w S hR k cT) rfl rfl ?_|refine PE ?_|refine ag aa rfl ?_)
      all_goals (try conv=>whnf)
      · rename_i h
        exact ⟨bc (by rw[hr,h];rfl),rfl⟩
      · rename_i h
        exact ⟨k+1,[0],⟨⟨hk,by rw[hr,h,Bool.false_or]⟩,by omega⟩,rfl,⟨rr,rr,rr,⟨rfl,ax rfl (ak (by omega) (by omega))⟩,tU⟩,⟨ko,tU⟩⟩
    · obtain rfl:k=n:=by omega
      rw[show l.drop k=[] by rw[<-hn,List.drop_length]] at hr
      have hz:((k:Nat):Int)<(k:Nat)->False:=fun h=>by omega
      conv=>whnf
      first
        | exact ⟨bc hr.symm,rfl⟩
        | (refine af (cF hk) (fun _ => ?_)
           conv=>whnf
           exact ⟨bc hr.symm,rfl⟩)
theorem qY {n m : Nat} {l us : List Int} {c c' : pe} (hn : l.length = n + 1) (hl : n <= 60000) (hm : us.length = m + 1) (KJ : m <= 60000) :
    CP [] 212 [.slice 0 0 (n+1) c,.func (.func 210) [] [.ptr 1 0]] [.row (l.map iK) 3,.cells [.slice 2 0 (m+1) c'] 187,.row (us.map iK) 3] (fun v H'=>v=bA (l.any fun x=>!us.any fun y=>x==y)/\∃G,H'=[.row (l.map iK) 3,.cells [.slice 2 0 (m+1) c'] 187,.row (us.map iK) 3]++G):=by
  refine ag aa rfl ?_;conv=>whnf
  refine ag aa rfl ?_;conv=>whnf
  refine aV aa rfl (fun k:Nat=>[(0,.slice 0 0 (n+1) c),(1,.func (.func 210) [] [.ptr 1 0]),(7,iA ((n+1:Nat):Int)),(8,iA (k:Nat))]) (fun _=>[.row (l.map iK) 3,.cells [.slice 2 0 (m+1) c'] 187,.row (us.map iK) 3]) (fun k=>k<=n+1/\(l.any fun x=>!us.any fun y=>x==y)=((l.drop k).any fun x=>!us.any fun y=>x==y)) (fun k=>n+1 - k) 0 ⟨Nat.zero_le _,rfl⟩ [0,1,2] ?_ ?_
  · exact ⟨rfl,⟨rr,rr,rr,rr,tU⟩,⟨⟨_,rfl,rfl⟩,⟨_,rfl,rfl⟩,⟨_,rfl,rfl⟩,tU⟩⟩
  · rintro k ⟨gl,hr⟩
    by_cases hk:k<n+1
    · have cT:k<l.length:=by omega
      rw[drop_cons cT,List.any_cons] at hr
      conv=>whnf
      refine af (fun _=>?_) (bT hk)
      repeat' ((conv=>whnf);first|with_reducible apply af<;>intro _|refine aO.of rfl hk ?_|refine dL.val cT ?_|(refine (Kr (x:=l[k]) hm KJ).use [2] rfl rfl ⟨⟨_,rfl,rfl⟩,tU⟩ ?_;rintro _ _ ⟨rfl,rfl⟩;refine ⟨[],?_⟩)|refine ag aa rfl ?_)
      all_goals (try conv=>whnf)
      · rename_i h
        exact ⟨k+1,[0,1,2],⟨⟨hk,by rw[hr,h];rfl⟩,by omega⟩,rfl,⟨rr,rr,rr,⟨rfl,ax rfl (ak (by omega) (by omega))⟩,tU⟩,⟨⟨_,rfl,rfl⟩,⟨_,rfl,rfl⟩,⟨_,rfl,rfl⟩,tU⟩⟩
      · rename_i h
        exact ⟨bc (by rw[hr,h];rfl),_,rfl⟩
    · obtain rfl:k=n+1:=by omega
      rw[show l.drop (n+1)=[] by rw[<-hn,List.drop_length]] at hr
      conv=>whnf
      refine af (cF hk) (fun _=>?_)
      conv=>whnf
      exact ⟨bc hr.symm,[],rfl⟩
theorem sS{p:Nat}{H:List ai}:CP [] 212 [.lit (.slice none 0 0),.func (.func 210) [] [.ptr p 0]] H (fun v H'=>v=bA false/\H'=H):=by
  refine ag aa rfl ?_;conv=>whnf
  refine ag aa rfl ?_;conv=>whnf
  refine bS.loop 1 (bS.step aa rfl ?_);conv=>whnf
  exact ⟨rfl,rfl⟩
theorem ym:CP [] 202 [.lit (.slice none 0 0)] [] (fun v _=>v=bA true):=by
  refine ag aa rfl ?_;conv=>whnf
  refine bS.loop 1 (bS.step aa rfl ?_);conv=>whnf
structure bG where
  ms:List Mem
  nt:Nat
  rs:List bW
  ss:List df
  tx:ByteArray
  es:List fS
  past:Int
  om:Option Addr
  ot:Option Addr
  oZ:Option Addr
  os:Option Addr
  oe:Option Addr
  cm:Nat
  ct:Nat
  cr:Nat
  cs:Nat
  ce:Nat
def bG.a(q:bG):List AV:=[.lit (.slice q.om q.ms.length q.cm),.lit (.slice q.ot q.nt q.ct),.lit (.slice q.oZ q.rs.length q.cr),.lit (.slice q.os q.ss.length q.cs),.lit (.string q.tx),.lit (.slice q.oe q.es.length q.ce),iA q.past]
structure bG.Rd(R:aC)(q:bG):Prop where
  ms:cU Tryz.prog R 51 6 q.om mC q.ms
  rs:cU Tryz.prog R 72 4 q.oZ yS q.rs
  ss:cU Tryz.prog R 78 6 q.os JK q.ss
  es:cU Tryz.prog R 81 4 q.oe Px q.es
def bW.bL(r:bW):Bool:=fits r.x r.y&&decide (0<=r.label/\r.label<=7)
def df.bL(s:df):Bool:=o4 s.x0 s.y0 s.x1 s.y1&&decide (0<=s.label/\s.label<=7)
theorem PF{R:aC}{q:bG}(h:q.Rd R)(h1:q.rs.length<=60000)(h2:q.ss.length<=60000):CP [] 122 [.agg q.a] [.res R] (fun v H'=>v=bA (q.rs.all bW.bL&&q.ss.all df.bL)/\∃G,H'=.res R::G):=by
  refine ag aa rfl ?_;conv=>whnf
  refine aV aa rfl (fun k:Nat=>[(1,.ptr 1 0),(8,.lit (.slice q.oZ q.rs.length q.cr)),(9,iA q.rs.length),(10,iA (k:Nat))]) (fun _=>[.res R,.cells q.a 28]) (fun k=>k<=q.rs.length/\q.rs.all bW.bL=(q.rs.drop k).all bW.bL) (fun k=>q.rs.length - k) 0 ⟨Nat.zero_le _,rfl⟩ [0,1] ?_ ?_
  · exact ⟨rfl,⟨rr,rr,rr,rr,tU⟩,⟨ko,⟨_,rfl,rfl⟩,tU⟩⟩
  · rintro k ⟨gl,hr⟩
    by_cases hk:k<q.rs.length
    · obtain ⟨a,ha,bu⟩:=h.rs.at hk
      rw[drop_cons hk,List.all_cons] at hr
      simp only[ha]
      conv=>whnf
      refine af (fun _=>?_) (bT hk)
      repeat' ((conv=>whnf);first|with_reducible apply af<;>intro _|refine al.bC aa rfl rfl rfl rfl rfl hk ?_|refine al.aR (i:=0) (v:=.agg (lE q.rs[k])) rfl (fun w S hR=>bu w S hR k hk) rfl rfl ?_|refine ag aa rfl ?_)
      all_goals (try conv=>whnf)
      all_goals
        simp only[decide_eq_true_eq,decide_eq_false_iff_not] at *
      all_goals first
        | (have hp : q.rs[k].bL = true := by unfold bW.bL fits; rw [Bool.and_eq_true, decide_eq_true_eq, decide_eq_true_eq]; omega
           exact ⟨k+1,[0,1],⟨⟨hk,by rw[hr,hp,Bool.true_and]⟩,by omega⟩,rfl,⟨rr,rr,rr,⟨rfl,ax rfl (ak (by omega) (by omega))⟩,tU⟩,⟨ko,⟨_,rfl,rfl⟩,tU⟩⟩)
        | (have hp : q.rs[k].bL = false := Bool.eq_false_iff.2 (by unfold bW.bL fits; rw [ne_eq, Bool.and_eq_true, decide_eq_true_eq, decide_eq_true_eq]; omega)
           exact ⟨bc (by rw[hr,hp];rfl),_,rfl⟩)
        | trace_state
    · obtain rfl:k=q.rs.length:=by omega
      rw[List.drop_length] at hr
      conv=>whnf
      refine af (cF hk) (fun _=>?_)
      conv=>whnf
      rw[hr]
      refine aV aa rfl (fun k:Nat=>[(1,.ptr 1 0),(26,.lit (.slice q.os q.ss.length q.cs)),(27,iA q.ss.length),(28,iA (k:Nat))]) (fun _=>[.res R,.cells q.a 28]) (fun k=>k<=q.ss.length/\q.ss.all df.bL=(q.ss.drop k).all df.bL) (fun k=>q.ss.length - k) 0 ⟨Nat.zero_le _,rfl⟩ [0,1] ?_ ?_
      · exact ⟨rfl,⟨rr,rr,rr,rr,tU⟩,⟨ko,⟨_,rfl,rfl⟩,tU⟩⟩
      · rintro k ⟨gl,hr⟩
        by_cases hk:k<q.ss.length
        · obtain ⟨a,ha,bu⟩:=h.ss.at hk
          rw[drop_cons hk,List.all_cons] at hr
          simp only[ha]
          conv=>whnf
          refine af (fun _=>?_) (bT hk)
          repeat' ((conv=>whnf);first|with_reducible apply af<;>intro _|refine al.bC aa rfl rfl rfl rfl rfl hk ?_|refine al.aR (i:=0) (v:=.agg (pG q.ss[k])) rfl (fun w S hR=>bu w S hR k hk) rfl rfl ?_|refine AK ?_|refine ag aa rfl ?_)
          all_goals (try conv=>whnf)
          all_goals
            simp only[decide_eq_true_eq,decide_eq_false_iff_not] at *
          all_goals first
            | (have hp : q.ss[k].bL = true := by unfold df.bL; rw [Bool.and_eq_true, decide_eq_true_eq]; exact ⟨by assumption, by omega⟩
               exact ⟨k+1,[0,1],⟨⟨hk,by rw[hr,hp,Bool.true_and]⟩,by omega⟩,rfl,⟨rr,rr,rr,⟨rfl,ax rfl (ak (by omega) (by omega))⟩,tU⟩,⟨ko,⟨_,rfl,rfl⟩,tU⟩⟩)
            | (have hp : q.ss[k].bL = false := by
                 unfold df.bL;first
                   | (rw[Bool.and_eq_false_iff];exact .inl (by assumption))
                   | (rw[Bool.and_eq_false_iff];exact .inr (decide_eq_false (by omega)))
               exact ⟨bc (by rw[hr,hp];rfl),_,rfl⟩)
            | trace_state
        · obtain rfl:k=q.ss.length:=by omega
          rw[List.drop_length] at hr
          rw[hr]
          conv=>whnf
          refine af (cF hk) (fun _=>?_)
          conv=>whnf
          exact ⟨rfl,_,rfl⟩
def bG.us(q:bG):List Int:=q.ms.map (·.user)
def bG.xH(q:bG):List Int:=q.rs.map (·.id)
def bG.xM(q:bG):List Int:=q.ss.map (·.id)
def bG.aq(q:bG):Bool:=(match q.us with|[]=>false|x::_=>x==0)&&(cP q.us&&!(q.ms.any fun m=>!m.dF)) &&
  (cP q.xH&&cP q.xM&&!(q.xH.any fun x=>!q.us.any fun y=>x==y)&&!(q.xM.any fun x=>!q.us.any fun y=>x==y))
theorem PC{R:aC}{q:bG}(h:q.Rd R)(h0:q.ms.length<=60000)(h1:q.rs.length<=60000)(h2:q.ss.length<=60000):CP [] 121 [.agg q.a] [.res R] (fun v H'=>v=bA q.aq/\∃G,H'=.res R::G):=by
  rcases q with ⟨ms,nt,rs,ss,tx,es,past,om,ot,oZ,os,oe,cm,ct,cr,cs,ce⟩;have gm:=h.ms;have gr:=h.rs;have gs:=h.ss;simp only[] at gm gr gs h0 h1 h2;refine ag aa rfl ?_;rcases ms with _|⟨m0,ms⟩
  · repeat' ((conv=>whnf);first|with_reducible apply af<;>intro _|(refine (J1 (l:=[]) rfl (by simp) gm).use [0] rfl rfl ⟨ko,tU⟩ ?_;rintro _ _ ⟨rfl,rfl⟩;refine ⟨[],?_⟩)|refine ag aa rfl ?_)
    all_goals (try conv=>whnf)
    exact ⟨rfl,_,rfl⟩
  · rcases rs with _|⟨r0,rs⟩<;>rcases ss with _|⟨s0,ss⟩
    · repeat' ((conv=>whnf);first|with_reducible apply af<;>intro _|(refine (J1 (l:=m0::ms) rfl h0 gm).use [0] rfl rfl ⟨ko,tU⟩ ?_;rintro _ _ ⟨rfl,rfl⟩;refine ⟨[1],?_⟩)|refine aO.of (k:=0) rfl (by omega) ?_|refine dL.one (iK m0.user) rfl ?_|(refine (nz (l:=(m0::ms).map (·.user)) (n:=ms.length) (by simp) (by simp at h0;omega)).use [2] rfl rfl ⟨⟨_,rfl,by simp[List.map_map];rfl⟩,tU⟩ ?_;rintro _ _ ⟨rfl,rfl⟩;refine ⟨[],?_⟩)|(refine (FE (l:=m0::ms) rfl (by omega) gm).use [0] rfl rfl ⟨ko,tU⟩ ?_;rintro _ _ ⟨rfl,rfl⟩;refine ⟨[],?_⟩)|(refine (M4 (l:=[]) rfl h1 gr).use [0] rfl rfl ⟨ko,tU⟩ ?_;rintro _ _ ⟨rfl,rfl⟩;refine ⟨[],?_⟩)|(refine (M5 (l:=[]) rfl h2 gs).use [0] rfl rfl ⟨ko,tU⟩ ?_;rintro _ _ ⟨rfl,rfl⟩;refine ⟨[],?_⟩)|(refine ym.use [] rfl rfl trivial ?_;rintro _ _ rfl;refine ⟨[],?_⟩)|(refine (sS (p:=0) (H:=[.cells [.slice 1 0 (ms.length+1) (.grown 1)] 187,.row (((m0::ms).map fun m:Mem=>m.user).map iK) 3])).use [3,2] rfl rfl ⟨⟨_,rfl,rfl⟩,⟨_,rfl,rfl⟩,tU⟩ ?_;rintro _ _ ⟨rfl,rfl⟩;refine ⟨[],?_⟩))
      all_goals (try conv=>whnf)
      all_goals
        refine ⟨bc ?_,_,rfl⟩
        clear h gm gr gs
        simp only[bG.aq,bG.us,bG.xH,bG.xM]
        generalize cP (List.map (fun x=>x.user) (m0::ms))=a1 at *
        generalize ((m0::ms).any fun m=>!m.dF)=a2 at *
        simp_all [cP]
    · repeat' ((conv=>whnf);first|with_reducible apply af<;>intro _|(refine (J1 (l:=m0::ms) rfl h0 gm).use [0] rfl rfl ⟨ko,tU⟩ ?_;rintro _ _ ⟨rfl,rfl⟩;refine ⟨[1],?_⟩)|refine aO.of (k:=0) rfl (by omega) ?_|refine dL.one (iK m0.user) rfl ?_|(refine (nz (l:=(m0::ms).map (·.user)) (n:=ms.length) (by simp) (by simp at h0;omega)).use [2] rfl rfl ⟨⟨_,rfl,by simp[List.map_map];rfl⟩,tU⟩ ?_;rintro _ _ ⟨rfl,rfl⟩;refine ⟨[],?_⟩)|(refine (FE (l:=m0::ms) rfl (by omega) gm).use [0] rfl rfl ⟨ko,tU⟩ ?_;rintro _ _ ⟨rfl,rfl⟩;refine ⟨[],?_⟩)|(refine (M4 (l:=[]) rfl h1 gr).use [0] rfl rfl ⟨ko,tU⟩ ?_;rintro _ _ ⟨rfl,rfl⟩;refine ⟨[],?_⟩)|(refine (M5 (l:=s0::ss) rfl h2 gs).use [0] rfl rfl ⟨ko,tU⟩ ?_;rintro _ _ ⟨rfl,rfl⟩;refine ⟨[1],?_⟩)|(refine (nz (l:=(s0::ss).map (·.id)) (n:=ss.length) (by simp) (by simp at h2;omega)).use [4] rfl rfl ⟨⟨_,rfl,by simp[List.map_map];rfl⟩,tU⟩ ?_;rintro _ _ ⟨rfl,rfl⟩;refine ⟨[],?_⟩)|(refine ym.use [] rfl rfl trivial ?_;rintro _ _ rfl;refine ⟨[],?_⟩)|(refine (qY (l:=(s0::ss).map (·.id)) (n:=ss.length) (us:=(m0::ms).map (·.user)) (m:=ms.length) (by simp) (by simp at h1 h2;omega) (by simp) (by simp at h0;omega)).use [4,3,2] rfl rfl ⟨⟨_,rfl,by simp[List.map_map];rfl⟩,⟨_,rfl,rfl⟩,⟨_,rfl,by simp[List.map_map];rfl⟩,tU⟩ ?_;rintro _ _ ⟨rfl,G,rfl⟩;refine ⟨[],?_⟩)|(refine (sS (p:=0) (H:=[.cells [.slice 1 0 (ms.length+1) (.grown 1)] 187,.row (((m0::ms).map fun m:Mem=>m.user).map iK) 3])).use [3,2] rfl rfl ⟨⟨_,rfl,rfl⟩,⟨_,rfl,rfl⟩,tU⟩ ?_;rintro _ _ ⟨rfl,rfl⟩;refine ⟨[],?_⟩))
      all_goals (try conv=>whnf)
      all_goals
        refine ⟨bc ?_,_,rfl⟩
        clear h gm gr gs
        simp only[bG.aq,bG.us,bG.xH,bG.xM]
        generalize cP (List.map (fun x=>x.user) (m0::ms))=a1 at *
        generalize ((m0::ms).any fun m=>!m.dF)=a2 at *
        generalize cP (List.map (fun x=>x.id) (s0::ss))=a5 at *
        generalize ((List.map (fun x=>x.id) (s0::ss)).any fun x=>!(List.map (fun x=>x.user) (m0::ms)).any fun y=>x==y)=a6 at *
        simp_all [cP]
    · repeat' ((conv=>whnf);first|with_reducible apply af<;>intro _|(refine (J1 (l:=m0::ms) rfl h0 gm).use [0] rfl rfl ⟨ko,tU⟩ ?_;rintro _ _ ⟨rfl,rfl⟩;refine ⟨[1],?_⟩)|refine aO.of (k:=0) rfl (by omega) ?_|refine dL.one (iK m0.user) rfl ?_|(refine (nz (l:=(m0::ms).map (·.user)) (n:=ms.length) (by simp) (by simp at h0;omega)).use [2] rfl rfl ⟨⟨_,rfl,by simp[List.map_map];rfl⟩,tU⟩ ?_;rintro _ _ ⟨rfl,rfl⟩;refine ⟨[],?_⟩)|(refine (FE (l:=m0::ms) rfl (by omega) gm).use [0] rfl rfl ⟨ko,tU⟩ ?_;rintro _ _ ⟨rfl,rfl⟩;refine ⟨[],?_⟩)|(refine (M4 (l:=r0::rs) rfl h1 gr).use [0] rfl rfl ⟨ko,tU⟩ ?_;rintro _ _ ⟨rfl,rfl⟩;refine ⟨[1],?_⟩)|(refine (M5 (l:=[]) rfl h2 gs).use [0] rfl rfl ⟨ko,tU⟩ ?_;rintro _ _ ⟨rfl,rfl⟩;refine ⟨[],?_⟩)|(refine (nz (l:=(r0::rs).map (·.id)) (n:=rs.length) (by simp) (by simp at h1;omega)).use [4] rfl rfl ⟨⟨_,rfl,by simp[List.map_map];rfl⟩,tU⟩ ?_;rintro _ _ ⟨rfl,rfl⟩;refine ⟨[],?_⟩)|(refine ym.use [] rfl rfl trivial ?_;rintro _ _ rfl;refine ⟨[],?_⟩)|(refine (qY (l:=(r0::rs).map (·.id)) (n:=rs.length) (us:=(m0::ms).map (·.user)) (m:=ms.length) (by simp) (by simp at h1 h2;omega) (by simp) (by simp at h0;omega)).use [4,3,2] rfl rfl ⟨⟨_,rfl,by simp[List.map_map];rfl⟩,⟨_,rfl,rfl⟩,⟨_,rfl,by simp[List.map_map];rfl⟩,tU⟩ ?_;rintro _ _ ⟨rfl,G,rfl⟩;refine ⟨[],?_⟩)|(refine (sS (p:=0) (H:=[.cells [.slice 1 0 (ms.length+1) (.grown 1)] 187,.row (((m0::ms).map fun m:Mem=>m.user).map iK) 3])).use [3,2] rfl rfl ⟨⟨_,rfl,rfl⟩,⟨_,rfl,rfl⟩,tU⟩ ?_;rintro _ _ ⟨rfl,rfl⟩;refine ⟨[],?_⟩))
      all_goals (try conv=>whnf)
      all_goals
        refine ⟨bc ?_,_,rfl⟩
        clear h gm gr gs
        simp only[bG.aq,bG.us,bG.xH,bG.xM]
        generalize cP (List.map (fun x=>x.user) (m0::ms))=a1 at *
        generalize ((m0::ms).any fun m=>!m.dF)=a2 at *
        generalize cP (List.map (fun x=>x.id) (r0::rs))=a3 at *
        generalize ((List.map (fun x=>x.id) (r0::rs)).any fun x=>!(List.map (fun x=>x.user) (m0::ms)).any fun y=>x==y)=a4 at *
        simp_all [cP]
    · repeat' ((conv=>whnf);first|with_reducible apply af<;>intro _|(refine (J1 (l:=m0::ms) rfl h0 gm).use [0] rfl rfl ⟨ko,tU⟩ ?_;rintro _ _ ⟨rfl,rfl⟩;refine ⟨[1],?_⟩)|refine aO.of (k:=0) rfl (by omega) ?_|refine dL.one (iK m0.user) rfl ?_|(refine (nz (l:=(m0::ms).map (·.user)) (n:=ms.length) (by simp) (by simp at h0;omega)).use [2] rfl rfl ⟨⟨_,rfl,by simp[List.map_map];rfl⟩,tU⟩ ?_;rintro _ _ ⟨rfl,rfl⟩;refine ⟨[],?_⟩)|(refine (FE (l:=m0::ms) rfl (by omega) gm).use [0] rfl rfl ⟨ko,tU⟩ ?_;rintro _ _ ⟨rfl,rfl⟩;refine ⟨[],?_⟩)|(refine (M4 (l:=r0::rs) rfl h1 gr).use [0] rfl rfl ⟨ko,tU⟩ ?_;rintro _ _ ⟨rfl,rfl⟩;refine ⟨[1],?_⟩)|(refine (M5 (l:=s0::ss) rfl h2 gs).use [0] rfl rfl ⟨ko,tU⟩ ?_;rintro _ _ ⟨rfl,rfl⟩;refine ⟨[1],?_⟩)|(refine (nz (l:=(r0::rs).map (·.id)) (n:=rs.length) (by simp) (by simp at h1;omega)).use [4] rfl rfl ⟨⟨_,rfl,by simp[List.map_map];rfl⟩,tU⟩ ?_;rintro _ _ ⟨rfl,rfl⟩;refine ⟨[],?_⟩)|(refine (nz (l:=(s0::ss).map (·.id)) (n:=ss.length) (by simp) (by simp at h2;omega)).use [5] rfl rfl ⟨⟨_,rfl,by simp[List.map_map];rfl⟩,tU⟩ ?_;rintro _ _ ⟨rfl,rfl⟩;refine ⟨[],?_⟩)|(refine (qY (l:=(r0::rs).map (·.id)) (n:=rs.length) (us:=(m0::ms).map (·.user)) (m:=ms.length) (by simp) (by simp at h1 h2;omega) (by simp) (by simp at h0;omega)).use [4,3,2] rfl rfl ⟨⟨_,rfl,by simp[List.map_map];rfl⟩,⟨_,rfl,rfl⟩,⟨_,rfl,by simp[List.map_map];rfl⟩,tU⟩ ?_;rintro _ _ ⟨rfl,G,rfl⟩;refine ⟨[],?_⟩)|(refine (qY (l:=(s0::ss).map (·.id)) (n:=ss.length) (us:=(m0::ms).map (·.user)) (m:=ms.length) (by simp) (by simp at h1 h2;omega) (by simp) (by simp at h0;omega)).use [5,3,2] rfl rfl ⟨⟨_,rfl,by simp[List.map_map];rfl⟩,⟨_,rfl,rfl⟩,⟨_,rfl,by simp[List.map_map];rfl⟩,tU⟩ ?_;rintro _ _ ⟨rfl,G,rfl⟩;refine ⟨[],?_⟩))
      all_goals (try conv=>whnf)
      all_goals
        refine ⟨bc ?_,_,rfl⟩
        clear h gm gr gs
        simp only[bG.aq,bG.us,bG.xH,bG.xM]
        generalize cP (List.map (fun x=>x.user) (m0::ms))=a1 at *
        generalize ((m0::ms).any fun m=>!m.dF)=a2 at *
        generalize cP (List.map (fun x=>x.id) (r0::rs))=a3 at *
        generalize ((List.map (fun x=>x.id) (r0::rs)).any fun x=>!(List.map (fun x=>x.user) (m0::ms)).any fun y=>x==y)=a4 at *
        generalize cP (List.map (fun x=>x.id) (s0::ss))=a5 at *
        generalize ((List.map (fun x=>x.id) (s0::ss)).any fun x=>!(List.map (fun x=>x.user) (m0::ms)).any fun y=>x==y)=a6 at *
        simp_all [cP]
def bG.sound(q:bG):Bool:=decide (q.nt=q.ms.length/\0<=q.past/\q.past<=4611686018427387903)&&(q.aq&&(q.rs.all bW.bL&&q.ss.all df.bL)&&!(q.es.any fun m=>!m.eD))
theorem S5{R:aC}{q:bG}(h:q.Rd R)(h0:q.ms.length<=60000)(h1:q.rs.length<=60000)(h2:q.ss.length<=60000)(h3:q.es.length<=4611686018427387904):CP [] 48 [.agg q.a] [.res R] (fun v H'=>v=bA q.sound/\∃G,H'=.res R::G):=by
  refine ag aa rfl ?_;repeat' ((conv=>whnf);first|with_reducible apply af<;>intro _|(refine (PC h h0 h1 h2).use [0] rfl rfl ⟨ko,tU⟩ ?_;rintro _ _ ⟨rfl,G,rfl⟩;refine ⟨[],?_⟩)|(refine (PF h h1 h2).use [0] rfl rfl ⟨ko,tU⟩ ?_;rintro _ _ ⟨rfl,G,rfl⟩;refine ⟨[],?_⟩)|(refine (Ws rfl h3 h.es).use [0] rfl rfl ⟨ko,tU⟩ ?_;rintro _ _ ⟨rfl,rfl⟩;refine ⟨[],?_⟩))
  all_goals (try conv=>whnf)
  all_goals
    refine ⟨bc ?_,_,rfl⟩
    clear h
    unfold bG.sound
    generalize q.aq=a1 at *
    generalize (q.rs.all bW.bL&&q.ss.all df.bL)=a2 at *
    generalize (q.es.any fun m=>!m.eD)=a3 at *
    simp_all
  all_goals omega
