/- Part of the proof: Ten. Conditions: as each states. -/
import Derived.Test.YtmbdghclhpboaaaGreatPw20
set_option linter.all false
set_option maxRecDepth 100000
namespace Go.Proofs.YtmbdghclhpboaaaGreat
open Ev
theorem pk:jE ev 187 3 1:=⟨⟨_,rfl,rfl⟩,_,_,rfl,rfl,rfl,rfl,by decide⟩
structure cw where
  id:Int
  x:Int
  y:Int
  label:Int
def Bz(r:cw):Value:=.agg #[.int .i64 r.id,.int .i64 r.x,.int .i64 r.y,.int .i64 r.label]
def mF(r:cw):List AV:=[iA r.id,iA r.x,iA r.y,iA r.label]
structure eA where
  id:Int
  x0:Int
  y0:Int
  x1:Int
  y1:Int
  label:Int
def MC(s:eA):Value:=.agg #[.int .i64 s.id,.int .i64 s.x0,.int .i64 s.y0,.int .i64 s.x1,.int .i64 s.y1,.int .i64 s.label]
def sM(s:eA):List AV:=[iA s.id,iA s.x0,iA s.y0,iA s.x1,iA s.y1,iA s.label]
theorem Ub{S:List Nat}{H:List af}{K:AV->List af->Prop}{m:Mem}(k:K (iA m.user) H):CP S 201 [.agg (mA m)] H K:=by
  refine ag.pure ?_ (fun _=>rfl) (fun _=>rfl) k;refine ae U rfl ?_;repeat' ((conv=>whnf);first|with_reducible apply aa<;>intro _|refine ae U rfl ?_)
  all_goals first|rfl|(conv=>whnf)
theorem IE {R : aH} {oa : Option Addr} {n c : Nat} {l : List Mem} (hn : l.length = n) (hl : n <= 60000) (h : eG Tryz.prog R 51 6 oa mC l) :
    CP [] 200 [.lit (.slice oa n c),.lit (.func (.func 201) #[] #[])] [.res R] (fun v H'=>v=zn 1 1 n/\H'=.res R::zp (l.map fun m=>iK m.user) 3 n):=by
  refine ae U rfl ?_;conv=>whnf
  refine aW U rfl (fun k:Nat=>[(1,.lit (.func (.func 201) #[] #[])),(8,.lit (.slice oa n c)),(9,iA n),(10,iA (k:Nat)),(5,zn 1 1 k)]) (fun k=>.res R::zp ((l.take k).map fun m=>iK m.user) 3 k) (·<=n) (fun k=>n - k) 0 (Nat.zero_le _) [0] ?_ ?_
  · exact ⟨rfl,⟨rr,rr,rr,rr,rr,tU⟩,⟨ko,tU⟩⟩
  · intro k gT
    by_cases hk:k<n
    · have cB:k<l.length:=by omega
      have hs:=bf cB
      obtain ⟨a,rfl,bq⟩:=h.at cB
      rcases k with _|k
      all_goals
        conv=>whnf
        refine aa (fun _=>?_) (ck hk)
        conv=>whnf
        refine ai.bJ U rfl rfl rfl rfl rfl hk ?_
        conv=>whnf
        refine ai.aR (i:=0) (v:=.agg (mA l[_])) rfl (fun w S hR=>bq w S hR _ cB) rfl rfl ?_
        conv=>whnf
        refine Ub ?_
        conv=>whnf
        first
          | refine dP.nil pk rfl rfl rfl rfl rfl ?_
          | refine dP.own pk rfl rfl rfl rfl rfl rfl (by simp;omega) (by omega) ?_
        conv=>whnf
      · exact ⟨1,[0,3],⟨hk,by omega⟩,rfl,⟨rr,rr,rr,⟨rfl,aw rfl rfl⟩,⟨rfl,rfl⟩,tU⟩,⟨ko,⟨_,rfl,by rw[hs];rfl⟩,tU⟩⟩
      · exact ⟨k+2,[0,4],⟨hk,by omega⟩,rfl,⟨rr,rr,rr,⟨rfl,aw rfl (aj (by omega) (by omega))⟩,⟨rfl,rfl⟩,tU⟩,⟨ko,⟨_,rfl,by rw[hs,List.map_append];rfl⟩,tU⟩⟩
    · obtain rfl:k=n:=by omega
      have ht:l.take k=l:=by rw[<-hn,List.take_length]
      rcases k with _|k
      · conv=>whnf
        rw[ht]
        exact ⟨rfl,rfl⟩
      · conv=>whnf
        refine aa (cI hk) (fun _=>?_)
        conv=>whnf
        rw[ht]
        exact ⟨rfl,rfl⟩
theorem Uc{S:List Nat}{H:List af}{K:AV->List af->Prop}{m:cw}(k:K (iA m.id) H):CP S 207 [.agg (mF m)] H K:=by
  refine ag.pure ?_ (fun _=>rfl) (fun _=>rfl) k;refine ae U rfl ?_;repeat' ((conv=>whnf);first|with_reducible apply aa<;>intro _|refine ae U rfl ?_)
  all_goals first|rfl|(conv=>whnf)
theorem K7 {R : aH} {oa : Option Addr} {n c : Nat} {l : List cw} (hn : l.length = n) (hl : n <= 60000) (h : eG Tryz.prog R 72 4 oa Bz l) :
    CP [] 206 [.lit (.slice oa n c),.lit (.func (.func 207) #[] #[])] [.res R] (fun v H'=>v=zn 1 1 n/\H'=.res R::zp (l.map fun m=>iK m.id) 3 n):=by
  refine ae U rfl ?_;conv=>whnf
  refine aW U rfl (fun k:Nat=>[(1,.lit (.func (.func 207) #[] #[])),(8,.lit (.slice oa n c)),(9,iA n),(10,iA (k:Nat)),(5,zn 1 1 k)]) (fun k=>.res R::zp ((l.take k).map fun m=>iK m.id) 3 k) (·<=n) (fun k=>n - k) 0 (Nat.zero_le _) [0] ?_ ?_
  · exact ⟨rfl,⟨rr,rr,rr,rr,rr,tU⟩,⟨ko,tU⟩⟩
  · intro k gT
    by_cases hk:k<n
    · have cB:k<l.length:=by omega
      have hs:=bf cB
      obtain ⟨a,rfl,bq⟩:=h.at cB
      rcases k with _|k
      all_goals
        conv=>whnf
        refine aa (fun _=>?_) (ck hk)
        conv=>whnf
        refine ai.bJ U rfl rfl rfl rfl rfl hk ?_
        conv=>whnf
        refine ai.aR (i:=0) (v:=.agg (mF l[_])) rfl (fun w S hR=>bq w S hR _ cB) rfl rfl ?_
        conv=>whnf
        refine Uc ?_
        conv=>whnf
        first
          | refine dP.nil pk rfl rfl rfl rfl rfl ?_
          | refine dP.own pk rfl rfl rfl rfl rfl rfl (by simp;omega) (by omega) ?_
        conv=>whnf
      · exact ⟨1,[0,3],⟨hk,by omega⟩,rfl,⟨rr,rr,rr,⟨rfl,aw rfl rfl⟩,⟨rfl,rfl⟩,tU⟩,⟨ko,⟨_,rfl,by rw[hs];rfl⟩,tU⟩⟩
      · exact ⟨k+2,[0,4],⟨hk,by omega⟩,rfl,⟨rr,rr,rr,⟨rfl,aw rfl (aj (by omega) (by omega))⟩,⟨rfl,rfl⟩,tU⟩,⟨ko,⟨_,rfl,by rw[hs,List.map_append];rfl⟩,tU⟩⟩
    · obtain rfl:k=n:=by omega
      have ht:l.take k=l:=by rw[<-hn,List.take_length]
      rcases k with _|k
      · conv=>whnf
        rw[ht]
        exact ⟨rfl,rfl⟩
      · conv=>whnf
        refine aa (cI hk) (fun _=>?_)
        conv=>whnf
        rw[ht]
        exact ⟨rfl,rfl⟩
theorem Ud{S:List Nat}{H:List af}{K:AV->List af->Prop}{m:eA}(k:K (iA m.id) H):CP S 209 [.agg (sM m)] H K:=by
  refine ag.pure ?_ (fun _=>rfl) (fun _=>rfl) k;refine ae U rfl ?_;repeat' ((conv=>whnf);first|with_reducible apply aa<;>intro _|refine ae U rfl ?_)
  all_goals first|rfl|(conv=>whnf)
theorem K8 {R : aH} {oa : Option Addr} {n c : Nat} {l : List eA} (hn : l.length = n) (hl : n <= 60000) (h : eG Tryz.prog R 78 6 oa MC l) :
    CP [] 208 [.lit (.slice oa n c),.lit (.func (.func 209) #[] #[])] [.res R] (fun v H'=>v=zn 1 1 n/\H'=.res R::zp (l.map fun m=>iK m.id) 3 n):=by
  refine ae U rfl ?_;conv=>whnf
  refine aW U rfl (fun k:Nat=>[(1,.lit (.func (.func 209) #[] #[])),(8,.lit (.slice oa n c)),(9,iA n),(10,iA (k:Nat)),(5,zn 1 1 k)]) (fun k=>.res R::zp ((l.take k).map fun m=>iK m.id) 3 k) (·<=n) (fun k=>n - k) 0 (Nat.zero_le _) [0] ?_ ?_
  · exact ⟨rfl,⟨rr,rr,rr,rr,rr,tU⟩,⟨ko,tU⟩⟩
  · intro k gT
    by_cases hk:k<n
    · have cB:k<l.length:=by omega
      have hs:=bf cB
      obtain ⟨a,rfl,bq⟩:=h.at cB
      rcases k with _|k
      all_goals
        conv=>whnf
        refine aa (fun _=>?_) (ck hk)
        conv=>whnf
        refine ai.bJ U rfl rfl rfl rfl rfl hk ?_
        conv=>whnf
        refine ai.aR (i:=0) (v:=.agg (sM l[_])) rfl (fun w S hR=>bq w S hR _ cB) rfl rfl ?_
        conv=>whnf
        refine Ud ?_
        conv=>whnf
        first
          | refine dP.nil pk rfl rfl rfl rfl rfl ?_
          | refine dP.own pk rfl rfl rfl rfl rfl rfl (by simp;omega) (by omega) ?_
        conv=>whnf
      · exact ⟨1,[0,3],⟨hk,by omega⟩,rfl,⟨rr,rr,rr,⟨rfl,aw rfl rfl⟩,⟨rfl,rfl⟩,tU⟩,⟨ko,⟨_,rfl,by rw[hs];rfl⟩,tU⟩⟩
      · exact ⟨k+2,[0,4],⟨hk,by omega⟩,rfl,⟨rr,rr,rr,⟨rfl,aw rfl (aj (by omega) (by omega))⟩,⟨rfl,rfl⟩,tU⟩,⟨ko,⟨_,rfl,by rw[hs,List.map_append];rfl⟩,tU⟩⟩
    · obtain rfl:k=n:=by omega
      have ht:l.take k=l:=by rw[<-hn,List.take_length]
      rcases k with _|k
      · conv=>whnf
        rw[ht]
        exact ⟨rfl,rfl⟩
      · conv=>whnf
        refine aa (cI hk) (fun _=>?_)
        conv=>whnf
        rw[ht]
        exact ⟨rfl,rfl⟩
def Mem.da(m:Mem):Bool:=if m.user=0 then decide (m.role=0/\m.jq=0/\m.fH=65535/\m.k=0/\m.cf=0)
  else Mem.right { m with k:=0,cf:=0 }&&(decide (m.k=0/\m.cf=0) || decide (1<=m.k/\m.k<=65535))
theorem I5{S:List Nat}{H:List af}{K:AV->List af->Prop}{m:Mem}(k:K (bA m.da) H):CP S 205 [.agg (mA m)] H K:=by
  refine ag.pure ?_ (fun _=>rfl) (fun _=>rfl) k;refine ae U rfl ?_;repeat' ((conv=>whnf);first|with_reducible apply aa<;>intro _|refine K1 (m:={ m with k:=0,cf:=0 }) ?_|refine ae U rfl ?_)
  all_goals
    refine bh ?_
    unfold Mem.da
    simp_all
  all_goals omega
theorem pV{a b:Int}(h:a=b/\-9223372036854775808<=b/\b<=9223372036854775807):IntKind.i64.wrap a=b:=by rw[h.1];exact aj h.2.1 h.2.2
def gL:Int->List Int->Bool
  | _,[]=>true
  | p,x::r=>decide (p<x)&&gL x r
def cA:List Int->Bool
  | []=>true
  | x::r=>gL x r
theorem drop_cons{α:Type}{l:List α}{k:Nat}(h:k<l.length):l.drop k=l[k]::l.drop (k+1):=List.drop_eq_getElem_cons h
theorem my{n:Nat}{l:List Int}{c:o0}(hn:l.length=n+1)(hl:n<=60000):CP [] 202 [.slice 0 0 (n+1) c] [.row (l.map iK) 3] (fun v H'=>v=bA (cA l)/\H'=[.row (l.map iK) 3]):=by
  refine ae U rfl ?_;conv=>whnf
  refine aW U rfl (fun k:Nat=>[(0,.slice 0 0 (n+1) c),(3,iA ((k+1:Nat):Int))]) (fun _=>[.row (l.map iK) 3]) (fun k=>k<=n/\∀h:k<l.length,cA l=gL l[k] (l.drop (k+1))) (fun k=>n - k) 0 ⟨Nat.zero_le _,fun h=>?_⟩ [0] ?_ ?_
  · cases l with
    | nil=>simp at hn
    | cons x r=>rfl
  · exact ⟨rfl,⟨rr,rr,tU⟩,⟨⟨_,rfl,rfl⟩,tU⟩⟩
  · rintro k ⟨gT,hr⟩
    have hr:=hr (by omega)
    by_cases hk:k+1<n+1
    · have cB:k+1<l.length:=by omega
      rw[drop_cons cB] at hr
      simp only[gL] at hr
      conv=>whnf
      refine aa (fun _=>?_) (ck hk)
      repeat' ((conv=>whnf);first|with_reducible apply aa<;>intro _|refine aJ.drawn U rfl rfl ?_|with_reducible refine And.intro (aG.mk ⟨_,rfl,rfl⟩) ?_|refine aI.of (k:=k+1) rfl hk ?_|refine aI.of (k:=k) (pV (by omega)) (by omega) ?_|refine df.val (i:=k+1) cB ?_|refine df.val (i:=k) (by omega) ?_|refine ae U rfl ?_)
      all_goals conv=>whnf
      · rename_i h
        have h:=of_decide_eq_true h
        exact ⟨bh (by rw[hr,decide_eq_false (by omega)];rfl),rfl⟩
      · rename_i h
        have h:=of_decide_eq_false h
        exact ⟨k+1,[0],⟨⟨by omega,fun _=>by rw[hr,decide_eq_true (by omega),Bool.true_and]⟩,by omega⟩,rfl,⟨rr,⟨rfl,aw rfl (pV (by omega))⟩,tU⟩,⟨⟨_,rfl,rfl⟩,tU⟩⟩
    · obtain rfl:k=n:=by omega
      rw[show l.drop (k+1)=[] by rw[<-hn,List.drop_length]] at hr
      conv=>whnf
      refine aa (cI hk) (fun _=>?_)
      conv=>whnf
      exact ⟨bh hr.symm,rfl⟩
theorem I4{n:Nat}{l:List Int}{x:Int}{c:o0}(hn:l.length=n+1)(hl:n<=60000):CP [] 211 [.slice 0 0 (n+1) c,iA x] [.row (l.map iK) 3] (fun v H'=>v=bA (l.any fun y=>x==y)/\H'=[.row (l.map iK) 3]):=by
  refine ae U rfl ?_;conv=>whnf
  refine ae U rfl ?_;conv=>whnf
  refine aW U rfl (fun k:Nat=>[(0,.slice 0 0 (n+1) c),(1,iA x),(7,iA ((n+1:Nat):Int)),(8,iA (k:Nat))]) (fun _=>[.row (l.map iK) 3]) (fun k=>k<=n+1/\(l.any fun y=>x==y)=((l.drop k).any fun y=>x==y)) (fun k=>n+1 - k) 0 ⟨Nat.zero_le _,rfl⟩ [0] ?_ ?_
  · exact ⟨rfl,⟨rr,rr,rr,rr,tU⟩,⟨⟨_,rfl,rfl⟩,tU⟩⟩
  · rintro k ⟨gT,hr⟩
    by_cases hk:k<n+1
    · have cB:k<l.length:=by omega
      rw[drop_cons cB,List.any_cons] at hr
      conv=>whnf
      refine aa (fun _=>?_) (ck hk)
      repeat' ((conv=>whnf);first|with_reducible apply aa<;>intro _|refine aI.of rfl hk ?_|refine df.val cB ?_|refine ae U rfl ?_)
      all_goals (try conv=>whnf)
      · rename_i h
        exact ⟨bh (by rw[hr,h];rfl),rfl⟩
      · rename_i h
        exact ⟨k+1,[0],⟨⟨hk,by rw[hr,h,Bool.false_or]⟩,by omega⟩,rfl,⟨rr,rr,rr,⟨rfl,aw rfl (aj (by omega) (by omega))⟩,tU⟩,⟨⟨_,rfl,rfl⟩,tU⟩⟩
    · obtain rfl:k=n+1:=by omega
      rw[show l.drop (n+1)=[] by rw[<-hn,List.drop_length]] at hr
      conv=>whnf
      refine aa (cI hk) (fun _=>?_)
      conv=>whnf
      exact ⟨bh hr.symm,rfl⟩
structure jU where
  user:Int
  op:Int
  status:Int
  tick:Int
def TG(e:jU):Value:=.agg #[.int .i64 e.user,.int .i64 e.op,.int .i64 e.status,.int .i64 e.tick]
def Gq(e:jU):List AV:=[iA e.user,iA e.op,iA e.status,iA e.tick]
def jU.dQ(e:jU):Bool:=decide (0<=e.user/\e.user<=65535/\1<=e.op/\e.op<=19/\0<=e.status/\e.status<=12/\0<=e.tick/\e.tick<=4294967295)
theorem NC{S:List Nat}{H:List af}{K:AV->List af->Prop}{m:jU}(k:K (bA (!m.dQ)) H):CP S 124 [.agg (Gq m)] H K:=by
  refine ag.pure ?_ (fun _=>rfl) (fun _=>rfl) k;refine ae U rfl ?_;repeat' ((conv=>whnf);first|with_reducible apply aa<;>intro _|refine ae U rfl ?_)
  all_goals
    refine bh ?_
    unfold jU.dQ
    simp_all
  all_goals omega
theorem NB{S:List Nat}{H:List af}{K:AV->List af->Prop}{m:Mem}(k:K (bA (!m.da)) H):CP S 204 [.agg (mA m)] H K:=by
  refine ag.pure ?_ (fun _=>rfl) (fun _=>rfl) k;refine ae U rfl ?_;repeat' ((conv=>whnf);first|with_reducible apply aa<;>intro _|refine I5 ?_|refine ae U rfl ?_)
  all_goals
    refine bh ?_
    simp_all
theorem Ew {R : aH} {oa : Option Addr} {n c : Nat} {l : List Mem} (hn : l.length = n) (hl : n <= 4611686018427387904) (h : eG Tryz.prog R 51 6 oa mC l) :
    CP [] 203 [.lit (.slice oa n c),.lit (.func (.func 204) #[] #[])] [.res R] (fun v H'=>v=bA (l.any fun m=>!m.da)/\H'=[.res R]):=by
  refine ae U rfl ?_;conv=>whnf
  refine ae U rfl ?_;conv=>whnf
  refine aW U rfl (fun k:Nat=>[(0,.lit (.slice oa n c)),(1,.lit (.func (.func 204) #[] #[])),(7,iA (n:Nat)),(8,iA (k:Nat))]) (fun _=>[.res R]) (fun k=>k<=n/\(l.any fun m=>!m.da)=((l.drop k).any fun m=>!m.da)) (fun k=>n - k) 0 ⟨Nat.zero_le _,rfl⟩ [0] ?_ ?_
  · exact ⟨rfl,⟨rr,rr,rr,rr,tU⟩,⟨ko,tU⟩⟩
  · rintro k ⟨gT,hr⟩
    by_cases hk:k<n
    · have cB:k<l.length:=by omega
      obtain ⟨a,rfl,bq⟩:=h.at cB
      rw[drop_cons cB,List.any_cons] at hr
      conv=>whnf
      refine aa (fun _=>?_) (ck hk)
      repeat' ((conv=>whnf);first|with_reducible apply aa<;>intro _|refine ai.bJ U rfl rfl rfl rfl rfl hk ?_|refine ai.aR (i:=0) (v:=.agg (mA l[k])) rfl (fun w S hR=>bq w S hR k cB) rfl rfl ?_|refine NB ?_|refine ae U rfl ?_)
      all_goals (try conv=>whnf)
      · rename_i h
        exact ⟨bh (by rw[hr,h];rfl),rfl⟩
      · rename_i h
        exact ⟨k+1,[0],⟨⟨hk,by rw[hr,h,Bool.false_or]⟩,by omega⟩,rfl,⟨rr,rr,rr,⟨rfl,aw rfl (aj (by omega) (by omega))⟩,tU⟩,⟨ko,tU⟩⟩
    · obtain rfl:k=n:=by omega
      rw[show l.drop k=[] by rw[<-hn,List.drop_length]] at hr
      have hz:((k:Nat):Int)<(k:Nat)->False:=fun h=>by omega
      conv=>whnf
      first
        | exact ⟨bh hr.symm,rfl⟩
        | (refine aa (cI hk) (fun _ => ?_)
           conv=>whnf
           exact ⟨bh hr.symm,rfl⟩)
theorem TI {R : aH} {oa : Option Addr} {n c : Nat} {l : List jU} (hn : l.length = n) (hl : n <= 4611686018427387904) (h : eG Tryz.prog R 81 4 oa TG l) :
    CP [] 123 [.lit (.slice oa n c),.lit (.func (.func 124) #[] #[])] [.res R] (fun v H'=>v=bA (l.any fun m=>!m.dQ)/\H'=[.res R]):=by
  refine ae U rfl ?_;conv=>whnf
  refine ae U rfl ?_;conv=>whnf
  refine aW U rfl (fun k:Nat=>[(0,.lit (.slice oa n c)),(1,.lit (.func (.func 124) #[] #[])),(7,iA (n:Nat)),(8,iA (k:Nat))]) (fun _=>[.res R]) (fun k=>k<=n/\(l.any fun m=>!m.dQ)=((l.drop k).any fun m=>!m.dQ)) (fun k=>n - k) 0 ⟨Nat.zero_le _,rfl⟩ [0] ?_ ?_
  · exact ⟨rfl,⟨rr,rr,rr,rr,tU⟩,⟨ko,tU⟩⟩
  · rintro k ⟨gT,hr⟩
    by_cases hk:k<n
    · have cB:k<l.length:=by omega
      obtain ⟨a,rfl,bq⟩:=h.at cB
      rw[drop_cons cB,List.any_cons] at hr
      conv=>whnf
      refine aa (fun _=>?_) (ck hk)
      repeat' ((conv=>whnf);first|with_reducible apply aa<;>intro _|refine ai.bJ U rfl rfl rfl rfl rfl hk ?_|refine ai.aR (i:=0) (v:=.agg (Gq l[k])) rfl (fun w S hR=>bq w S hR k cB) rfl rfl ?_|refine NC ?_|refine ae U rfl ?_)
      all_goals (try conv=>whnf)
      · rename_i h
        exact ⟨bh (by rw[hr,h];rfl),rfl⟩
      · rename_i h
        exact ⟨k+1,[0],⟨⟨hk,by rw[hr,h,Bool.false_or]⟩,by omega⟩,rfl,⟨rr,rr,rr,⟨rfl,aw rfl (aj (by omega) (by omega))⟩,tU⟩,⟨ko,tU⟩⟩
    · obtain rfl:k=n:=by omega
      rw[show l.drop k=[] by rw[<-hn,List.drop_length]] at hr
      have hz:((k:Nat):Int)<(k:Nat)->False:=fun h=>by omega
      conv=>whnf
      first
        | exact ⟨bh hr.symm,rfl⟩
        | (refine aa (cI hk) (fun _ => ?_)
           conv=>whnf
           exact ⟨bh hr.symm,rfl⟩)
theorem qg {n m : Nat} {l us : List Int} {c c' : o0} (hn : l.length = n + 1) (hl : n <= 60000) (hm : us.length = m + 1) (N3 : m <= 60000) :
    CP [] 212 [.slice 0 0 (n+1) c,.func (.func 210) [] [.ptr 1 0]] [.row (l.map iK) 3,.cells [.slice 2 0 (m+1) c'] 187,.row (us.map iK) 3] (fun v H'=>v=bA (l.any fun x=>!us.any fun y=>x==y)/\∃G,H'=[.row (l.map iK) 3,.cells [.slice 2 0 (m+1) c'] 187,.row (us.map iK) 3]++G):=by
  refine ae U rfl ?_;conv=>whnf
  refine ae U rfl ?_;conv=>whnf
  refine aW U rfl (fun k:Nat=>[(0,.slice 0 0 (n+1) c),(1,.func (.func 210) [] [.ptr 1 0]),(7,iA ((n+1:Nat):Int)),(8,iA (k:Nat))]) (fun _=>[.row (l.map iK) 3,.cells [.slice 2 0 (m+1) c'] 187,.row (us.map iK) 3]) (fun k=>k<=n+1/\(l.any fun x=>!us.any fun y=>x==y)=((l.drop k).any fun x=>!us.any fun y=>x==y)) (fun k=>n+1 - k) 0 ⟨Nat.zero_le _,rfl⟩ [0,1,2] ?_ ?_
  · exact ⟨rfl,⟨rr,rr,rr,rr,tU⟩,⟨⟨_,rfl,rfl⟩,⟨_,rfl,rfl⟩,⟨_,rfl,rfl⟩,tU⟩⟩
  · rintro k ⟨gT,hr⟩
    by_cases hk:k<n+1
    · have cB:k<l.length:=by omega
      rw[drop_cons cB,List.any_cons] at hr
      conv=>whnf
      refine aa (fun _=>?_) (ck hk)
      repeat' ((conv=>whnf);first|with_reducible apply aa<;>intro _|refine aI.of rfl hk ?_|refine df.val cB ?_|(refine (I4 (x:=l[k]) hm N3).use [2] rfl rfl ⟨⟨_,rfl,rfl⟩,tU⟩ ?_;rintro _ _ ⟨rfl,rfl⟩;refine ⟨[],?_⟩)|refine ae U rfl ?_)
      all_goals (try conv=>whnf)
      · rename_i h
        exact ⟨k+1,[0,1,2],⟨⟨hk,by rw[hr,h];rfl⟩,by omega⟩,rfl,⟨rr,rr,rr,⟨rfl,aw rfl (aj (by omega) (by omega))⟩,tU⟩,⟨⟨_,rfl,rfl⟩,⟨_,rfl,rfl⟩,⟨_,rfl,rfl⟩,tU⟩⟩
      · rename_i h
        exact ⟨bh (by rw[hr,h];rfl),_,rfl⟩
    · obtain rfl:k=n+1:=by omega
      rw[show l.drop (n+1)=[] by rw[<-hn,List.drop_length]] at hr
      conv=>whnf
      refine aa (cI hk) (fun _=>?_)
      conv=>whnf
      exact ⟨bh hr.symm,[],rfl⟩
theorem rU{p:Nat}{H:List af}:CP [] 212 [.lit (.slice none 0 0),.func (.func 210) [] [.ptr p 0]] H (fun v H'=>v=bA false/\H'=H):=by
  refine ae U rfl ?_;conv=>whnf
  refine ae U rfl ?_;conv=>whnf
  refine bL.loop 1 (bL.step U rfl ?_);conv=>whnf
  exact ⟨rfl,rfl⟩
theorem xq:CP [] 202 [.lit (.slice none 0 0)] [] (fun v _=>v=bA true):=by
  refine ae U rfl ?_;conv=>whnf
  refine bL.loop 1 (bL.step U rfl ?_);conv=>whnf
structure bM where
  ms:List Mem
  nt:Nat
  rs:List cw
  ss:List eA
  tx:ByteArray
  es:List jU
  past:Int
  om:Option Addr
  ot:Option Addr
  pd:Option Addr
  os:Option Addr
  oe:Option Addr
  cm:Nat
  ct:Nat
  cr:Nat
  cs:Nat
  ce:Nat
def bM.a(q:bM):List AV:=[.lit (.slice q.om q.ms.length q.cm),.lit (.slice q.ot q.nt q.ct),.lit (.slice q.pd q.rs.length q.cr),.lit (.slice q.os q.ss.length q.cs),.lit (.string q.tx),.lit (.slice q.oe q.es.length q.ce),iA q.past]
structure bM.Rd(R:aH)(q:bM):Prop where
  ms:eG Tryz.prog R 51 6 q.om mC q.ms
  rs:eG Tryz.prog R 72 4 q.pd Bz q.rs
  ss:eG Tryz.prog R 78 6 q.os MC q.ss
  es:eG Tryz.prog R 81 4 q.oe TG q.es
def cw.bB(r:cw):Bool:=fits r.x r.y&&decide (0<=r.label/\r.label<=7)
def eA.bB(s:eA):Bool:=oo s.x0 s.y0 s.x1 s.y1&&decide (0<=s.label/\s.label<=7)
theorem ND{R:aH}{q:bM}(h:q.Rd R)(h1:q.rs.length<=60000)(h2:q.ss.length<=60000):CP [] 122 [.agg q.a] [.res R] (fun v H'=>v=bA (q.rs.all cw.bB&&q.ss.all eA.bB)/\∃G,H'=.res R::G):=by
  refine ae U rfl ?_;conv=>whnf
  refine aW U rfl (fun k:Nat=>[(1,.ptr 1 0),(8,.lit (.slice q.pd q.rs.length q.cr)),(9,iA q.rs.length),(10,iA (k:Nat))]) (fun _=>[.res R,.cells q.a 28]) (fun k=>k<=q.rs.length/\q.rs.all cw.bB=(q.rs.drop k).all cw.bB) (fun k=>q.rs.length - k) 0 ⟨Nat.zero_le _,rfl⟩ [0,1] ?_ ?_
  · exact ⟨rfl,⟨rr,rr,rr,rr,tU⟩,⟨ko,⟨_,rfl,rfl⟩,tU⟩⟩
  · rintro k ⟨gT,hr⟩
    by_cases hk:k<q.rs.length
    · obtain ⟨a,ha,bq⟩:=h.rs.at hk
      rw[drop_cons hk,List.all_cons] at hr
      simp only[ha]
      conv=>whnf
      refine aa (fun _=>?_) (ck hk)
      repeat' ((conv=>whnf);first|with_reducible apply aa<;>intro _|refine ai.bJ U rfl rfl rfl rfl rfl hk ?_|refine ai.aR (i:=0) (v:=.agg (mF q.rs[k])) rfl (fun w S hR=>bq w S hR k hk) rfl rfl ?_|refine ae U rfl ?_)
      all_goals (try conv=>whnf)
      all_goals
        simp only[decide_eq_true_eq,decide_eq_false_iff_not] at *
      all_goals first
        | (have hp : q.rs[k].bB = true := by unfold cw.bB fits; rw [Bool.and_eq_true, decide_eq_true_eq, decide_eq_true_eq]; omega
           exact ⟨k+1,[0,1],⟨⟨hk,by rw[hr,hp,Bool.true_and]⟩,by omega⟩,rfl,⟨rr,rr,rr,⟨rfl,aw rfl (aj (by omega) (by omega))⟩,tU⟩,⟨ko,⟨_,rfl,rfl⟩,tU⟩⟩)
        | (have hp : q.rs[k].bB = false := Bool.eq_false_iff.2 (by unfold cw.bB fits; rw [ne_eq, Bool.and_eq_true, decide_eq_true_eq, decide_eq_true_eq]; omega)
           exact ⟨bh (by rw[hr,hp];rfl),_,rfl⟩)
        | trace_state
    · obtain rfl:k=q.rs.length:=by omega
      rw[List.drop_length] at hr
      conv=>whnf
      refine aa (cI hk) (fun _=>?_)
      conv=>whnf
      rw[hr]
      refine aW U rfl (fun k:Nat=>[(1,.ptr 1 0),(26,.lit (.slice q.os q.ss.length q.cs)),(27,iA q.ss.length),(28,iA (k:Nat))]) (fun _=>[.res R,.cells q.a 28]) (fun k=>k<=q.ss.length/\q.ss.all eA.bB=(q.ss.drop k).all eA.bB) (fun k=>q.ss.length - k) 0 ⟨Nat.zero_le _,rfl⟩ [0,1] ?_ ?_
      · exact ⟨rfl,⟨rr,rr,rr,rr,tU⟩,⟨ko,⟨_,rfl,rfl⟩,tU⟩⟩
      · rintro k ⟨gT,hr⟩
        by_cases hk:k<q.ss.length
        · obtain ⟨a,ha,bq⟩:=h.ss.at hk
          rw[drop_cons hk,List.all_cons] at hr
          simp only[ha]
          conv=>whnf
          refine aa (fun _=>?_) (ck hk)
          repeat' ((conv=>whnf);first|with_reducible apply aa<;>intro _|refine ai.bJ U rfl rfl rfl rfl rfl hk ?_|refine ai.aR (i:=0) (v:=.agg (sM q.ss[k])) rfl (fun w S hR=>bq w S hR k hk) rfl rfl ?_|refine zI ?_|refine ae U rfl ?_)
          all_goals (try conv=>whnf)
          all_goals
            simp only[decide_eq_true_eq,decide_eq_false_iff_not] at *
          all_goals first
            | (have hp : q.ss[k].bB = true := by unfold eA.bB; rw [Bool.and_eq_true, decide_eq_true_eq]; exact ⟨by assumption, by omega⟩
               exact ⟨k+1,[0,1],⟨⟨hk,by rw[hr,hp,Bool.true_and]⟩,by omega⟩,rfl,⟨rr,rr,rr,⟨rfl,aw rfl (aj (by omega) (by omega))⟩,tU⟩,⟨ko,⟨_,rfl,rfl⟩,tU⟩⟩)
            | (have hp : q.ss[k].bB = false := by
                 unfold eA.bB;first
                   | (rw[Bool.and_eq_false_iff];exact .inl (by assumption))
                   | (rw[Bool.and_eq_false_iff];exact .inr (decide_eq_false (by omega)))
               exact ⟨bh (by rw[hr,hp];rfl),_,rfl⟩)
            | trace_state
        · obtain rfl:k=q.ss.length:=by omega
          rw[List.drop_length] at hr
          rw[hr]
          conv=>whnf
          refine aa (cI hk) (fun _=>?_)
          conv=>whnf
          exact ⟨rfl,_,rfl⟩
def bM.us(q:bM):List Int:=q.ms.map (·.user)
def bM.yO(q:bM):List Int:=q.rs.map (·.id)
def bM.yT(q:bM):List Int:=q.ss.map (·.id)
def bM.ak(q:bM):Bool:=(match q.us with|[]=>false|x::_=>x==0)&&(cA q.us&&!(q.ms.any fun m=>!m.da)) &&
  (cA q.yO&&cA q.yT&&!(q.yO.any fun x=>!q.us.any fun y=>x==y)&&!(q.yT.any fun x=>!q.us.any fun y=>x==y))
theorem NA{R:aH}{q:bM}(h:q.Rd R)(h0:q.ms.length<=60000)(h1:q.rs.length<=60000)(h2:q.ss.length<=60000):CP [] 121 [.agg q.a] [.res R] (fun v H'=>v=bA q.ak/\∃G,H'=.res R::G):=by
  rcases q with ⟨ms,nt,rs,ss,tx,es,past,om,ot,pd,os,oe,cm,ct,cr,cs,ce⟩;have gm:=h.ms;have gr:=h.rs;have gs:=h.ss;simp only[] at gm gr gs h0 h1 h2;refine ae U rfl ?_;rcases ms with _|⟨m0,ms⟩
  · repeat' ((conv=>whnf);first|with_reducible apply aa<;>intro _|(refine (IE (l:=[]) rfl (by simp) gm).use [0] rfl rfl ⟨ko,tU⟩ ?_;rintro _ _ ⟨rfl,rfl⟩;refine ⟨[],?_⟩)|refine ae U rfl ?_)
    all_goals (try conv=>whnf)
    exact ⟨rfl,_,rfl⟩
  · rcases rs with _|⟨r0,rs⟩<;>rcases ss with _|⟨s0,ss⟩
    · repeat' ((conv=>whnf);first|with_reducible apply aa<;>intro _|(refine (IE (l:=m0::ms) rfl h0 gm).use [0] rfl rfl ⟨ko,tU⟩ ?_;rintro _ _ ⟨rfl,rfl⟩;refine ⟨[1],?_⟩)|refine aI.of (k:=0) rfl (by omega) ?_|refine df.one (iK m0.user) rfl ?_|(refine (my (l:=(m0::ms).map (·.user)) (n:=ms.length) (by simp) (by simp at h0;omega)).use [2] rfl rfl ⟨⟨_,rfl,by simp[List.map_map];rfl⟩,tU⟩ ?_;rintro _ _ ⟨rfl,rfl⟩;refine ⟨[],?_⟩)|(refine (Ew (l:=m0::ms) rfl (by omega) gm).use [0] rfl rfl ⟨ko,tU⟩ ?_;rintro _ _ ⟨rfl,rfl⟩;refine ⟨[],?_⟩)|(refine (K7 (l:=[]) rfl h1 gr).use [0] rfl rfl ⟨ko,tU⟩ ?_;rintro _ _ ⟨rfl,rfl⟩;refine ⟨[],?_⟩)|(refine (K8 (l:=[]) rfl h2 gs).use [0] rfl rfl ⟨ko,tU⟩ ?_;rintro _ _ ⟨rfl,rfl⟩;refine ⟨[],?_⟩)|(refine xq.use [] rfl rfl trivial ?_;rintro _ _ rfl;refine ⟨[],?_⟩)|(refine (rU (p:=0) (H:=[.cells [.slice 1 0 (ms.length+1) (.grown 1)] 187,.row (((m0::ms).map fun m:Mem=>m.user).map iK) 3])).use [3,2] rfl rfl ⟨⟨_,rfl,rfl⟩,⟨_,rfl,rfl⟩,tU⟩ ?_;rintro _ _ ⟨rfl,rfl⟩;refine ⟨[],?_⟩))
      all_goals (try conv=>whnf)
      all_goals
        refine ⟨bh ?_,_,rfl⟩
        clear h gm gr gs
        simp only[bM.ak,bM.us,bM.yO,bM.yT]
        generalize cA (List.map (fun x=>x.user) (m0::ms))=a1 at *
        generalize ((m0::ms).any fun m=>!m.da)=a2 at *
        simp_all [cA]
    · repeat' ((conv=>whnf);first|with_reducible apply aa<;>intro _|(refine (IE (l:=m0::ms) rfl h0 gm).use [0] rfl rfl ⟨ko,tU⟩ ?_;rintro _ _ ⟨rfl,rfl⟩;refine ⟨[1],?_⟩)|refine aI.of (k:=0) rfl (by omega) ?_|refine df.one (iK m0.user) rfl ?_|(refine (my (l:=(m0::ms).map (·.user)) (n:=ms.length) (by simp) (by simp at h0;omega)).use [2] rfl rfl ⟨⟨_,rfl,by simp[List.map_map];rfl⟩,tU⟩ ?_;rintro _ _ ⟨rfl,rfl⟩;refine ⟨[],?_⟩)|(refine (Ew (l:=m0::ms) rfl (by omega) gm).use [0] rfl rfl ⟨ko,tU⟩ ?_;rintro _ _ ⟨rfl,rfl⟩;refine ⟨[],?_⟩)|(refine (K7 (l:=[]) rfl h1 gr).use [0] rfl rfl ⟨ko,tU⟩ ?_;rintro _ _ ⟨rfl,rfl⟩;refine ⟨[],?_⟩)|(refine (K8 (l:=s0::ss) rfl h2 gs).use [0] rfl rfl ⟨ko,tU⟩ ?_;rintro _ _ ⟨rfl,rfl⟩;refine ⟨[1],?_⟩)|(refine (my (l:=(s0::ss).map (·.id)) (n:=ss.length) (by simp) (by simp at h2;omega)).use [4] rfl rfl ⟨⟨_,rfl,by simp[List.map_map];rfl⟩,tU⟩ ?_;rintro _ _ ⟨rfl,rfl⟩;refine ⟨[],?_⟩)|(refine xq.use [] rfl rfl trivial ?_;rintro _ _ rfl;refine ⟨[],?_⟩)|(refine (qg (l:=(s0::ss).map (·.id)) (n:=ss.length) (us:=(m0::ms).map (·.user)) (m:=ms.length) (by simp) (by simp at h1 h2;omega) (by simp) (by simp at h0;omega)).use [4,3,2] rfl rfl ⟨⟨_,rfl,by simp[List.map_map];rfl⟩,⟨_,rfl,rfl⟩,⟨_,rfl,by simp[List.map_map];rfl⟩,tU⟩ ?_;rintro _ _ ⟨rfl,G,rfl⟩;refine ⟨[],?_⟩)|(refine (rU (p:=0) (H:=[.cells [.slice 1 0 (ms.length+1) (.grown 1)] 187,.row (((m0::ms).map fun m:Mem=>m.user).map iK) 3])).use [3,2] rfl rfl ⟨⟨_,rfl,rfl⟩,⟨_,rfl,rfl⟩,tU⟩ ?_;rintro _ _ ⟨rfl,rfl⟩;refine ⟨[],?_⟩))
      all_goals (try conv=>whnf)
      all_goals
        refine ⟨bh ?_,_,rfl⟩
        clear h gm gr gs
        simp only[bM.ak,bM.us,bM.yO,bM.yT]
        generalize cA (List.map (fun x=>x.user) (m0::ms))=a1 at *
        generalize ((m0::ms).any fun m=>!m.da)=a2 at *
        generalize cA (List.map (fun x=>x.id) (s0::ss))=a5 at *
        generalize ((List.map (fun x=>x.id) (s0::ss)).any fun x=>!(List.map (fun x=>x.user) (m0::ms)).any fun y=>x==y)=a6 at *
        simp_all [cA]
    · repeat' ((conv=>whnf);first|with_reducible apply aa<;>intro _|(refine (IE (l:=m0::ms) rfl h0 gm).use [0] rfl rfl ⟨ko,tU⟩ ?_;rintro _ _ ⟨rfl,rfl⟩;refine ⟨[1],?_⟩)|refine aI.of (k:=0) rfl (by omega) ?_|refine df.one (iK m0.user) rfl ?_|(refine (my (l:=(m0::ms).map (·.user)) (n:=ms.length) (by simp) (by simp at h0;omega)).use [2] rfl rfl ⟨⟨_,rfl,by simp[List.map_map];rfl⟩,tU⟩ ?_;rintro _ _ ⟨rfl,rfl⟩;refine ⟨[],?_⟩)|(refine (Ew (l:=m0::ms) rfl (by omega) gm).use [0] rfl rfl ⟨ko,tU⟩ ?_;rintro _ _ ⟨rfl,rfl⟩;refine ⟨[],?_⟩)|(refine (K7 (l:=r0::rs) rfl h1 gr).use [0] rfl rfl ⟨ko,tU⟩ ?_;rintro _ _ ⟨rfl,rfl⟩;refine ⟨[1],?_⟩)|(refine (K8 (l:=[]) rfl h2 gs).use [0] rfl rfl ⟨ko,tU⟩ ?_;rintro _ _ ⟨rfl,rfl⟩;refine ⟨[],?_⟩)|(refine (my (l:=(r0::rs).map (·.id)) (n:=rs.length) (by simp) (by simp at h1;omega)).use [4] rfl rfl ⟨⟨_,rfl,by simp[List.map_map];rfl⟩,tU⟩ ?_;rintro _ _ ⟨rfl,rfl⟩;refine ⟨[],?_⟩)|(refine xq.use [] rfl rfl trivial ?_;rintro _ _ rfl;refine ⟨[],?_⟩)|(refine (qg (l:=(r0::rs).map (·.id)) (n:=rs.length) (us:=(m0::ms).map (·.user)) (m:=ms.length) (by simp) (by simp at h1 h2;omega) (by simp) (by simp at h0;omega)).use [4,3,2] rfl rfl ⟨⟨_,rfl,by simp[List.map_map];rfl⟩,⟨_,rfl,rfl⟩,⟨_,rfl,by simp[List.map_map];rfl⟩,tU⟩ ?_;rintro _ _ ⟨rfl,G,rfl⟩;refine ⟨[],?_⟩)|(refine (rU (p:=0) (H:=[.cells [.slice 1 0 (ms.length+1) (.grown 1)] 187,.row (((m0::ms).map fun m:Mem=>m.user).map iK) 3])).use [3,2] rfl rfl ⟨⟨_,rfl,rfl⟩,⟨_,rfl,rfl⟩,tU⟩ ?_;rintro _ _ ⟨rfl,rfl⟩;refine ⟨[],?_⟩))
      all_goals (try conv=>whnf)
      all_goals
        refine ⟨bh ?_,_,rfl⟩
        clear h gm gr gs
        simp only[bM.ak,bM.us,bM.yO,bM.yT]
        generalize cA (List.map (fun x=>x.user) (m0::ms))=a1 at *
        generalize ((m0::ms).any fun m=>!m.da)=a2 at *
        generalize cA (List.map (fun x=>x.id) (r0::rs))=a3 at *
        generalize ((List.map (fun x=>x.id) (r0::rs)).any fun x=>!(List.map (fun x=>x.user) (m0::ms)).any fun y=>x==y)=a4 at *
        simp_all [cA]
    · repeat' ((conv=>whnf);first|with_reducible apply aa<;>intro _|(refine (IE (l:=m0::ms) rfl h0 gm).use [0] rfl rfl ⟨ko,tU⟩ ?_;rintro _ _ ⟨rfl,rfl⟩;refine ⟨[1],?_⟩)|refine aI.of (k:=0) rfl (by omega) ?_|refine df.one (iK m0.user) rfl ?_|(refine (my (l:=(m0::ms).map (·.user)) (n:=ms.length) (by simp) (by simp at h0;omega)).use [2] rfl rfl ⟨⟨_,rfl,by simp[List.map_map];rfl⟩,tU⟩ ?_;rintro _ _ ⟨rfl,rfl⟩;refine ⟨[],?_⟩)|(refine (Ew (l:=m0::ms) rfl (by omega) gm).use [0] rfl rfl ⟨ko,tU⟩ ?_;rintro _ _ ⟨rfl,rfl⟩;refine ⟨[],?_⟩)|(refine (K7 (l:=r0::rs) rfl h1 gr).use [0] rfl rfl ⟨ko,tU⟩ ?_;rintro _ _ ⟨rfl,rfl⟩;refine ⟨[1],?_⟩)|(refine (K8 (l:=s0::ss) rfl h2 gs).use [0] rfl rfl ⟨ko,tU⟩ ?_;rintro _ _ ⟨rfl,rfl⟩;refine ⟨[1],?_⟩)|(refine (my (l:=(r0::rs).map (·.id)) (n:=rs.length) (by simp) (by simp at h1;omega)).use [4] rfl rfl ⟨⟨_,rfl,by simp[List.map_map];rfl⟩,tU⟩ ?_;rintro _ _ ⟨rfl,rfl⟩;refine ⟨[],?_⟩)|(refine (my (l:=(s0::ss).map (·.id)) (n:=ss.length) (by simp) (by simp at h2;omega)).use [5] rfl rfl ⟨⟨_,rfl,by simp[List.map_map];rfl⟩,tU⟩ ?_;rintro _ _ ⟨rfl,rfl⟩;refine ⟨[],?_⟩)|(refine (qg (l:=(r0::rs).map (·.id)) (n:=rs.length) (us:=(m0::ms).map (·.user)) (m:=ms.length) (by simp) (by simp at h1 h2;omega) (by simp) (by simp at h0;omega)).use [4,3,2] rfl rfl ⟨⟨_,rfl,by simp[List.map_map];rfl⟩,⟨_,rfl,rfl⟩,⟨_,rfl,by simp[List.map_map];rfl⟩,tU⟩ ?_;rintro _ _ ⟨rfl,G,rfl⟩;refine ⟨[],?_⟩)|(refine (qg (l:=(s0::ss).map (·.id)) (n:=ss.length) (us:=(m0::ms).map (·.user)) (m:=ms.length) (by simp) (by simp at h1 h2;omega) (by simp) (by simp at h0;omega)).use [5,3,2] rfl rfl ⟨⟨_,rfl,by simp[List.map_map];rfl⟩,⟨_,rfl,rfl⟩,⟨_,rfl,by simp[List.map_map];rfl⟩,tU⟩ ?_;rintro _ _ ⟨rfl,G,rfl⟩;refine ⟨[],?_⟩))
      all_goals (try conv=>whnf)
      all_goals
        refine ⟨bh ?_,_,rfl⟩
        clear h gm gr gs
        simp only[bM.ak,bM.us,bM.yO,bM.yT]
        generalize cA (List.map (fun x=>x.user) (m0::ms))=a1 at *
        generalize ((m0::ms).any fun m=>!m.da)=a2 at *
        generalize cA (List.map (fun x=>x.id) (r0::rs))=a3 at *
        generalize ((List.map (fun x=>x.id) (r0::rs)).any fun x=>!(List.map (fun x=>x.user) (m0::ms)).any fun y=>x==y)=a4 at *
        generalize cA (List.map (fun x=>x.id) (s0::ss))=a5 at *
        generalize ((List.map (fun x=>x.id) (s0::ss)).any fun x=>!(List.map (fun x=>x.user) (m0::ms)).any fun y=>x==y)=a6 at *
        simp_all [cA]
def bM.sound(q:bM):Bool:=decide (q.nt=q.ms.length/\0<=q.past/\q.past<=4611686018427387903)&&(q.ak&&(q.rs.all cw.bB&&q.ss.all eA.bB)&&!(q.es.any fun m=>!m.dQ))
theorem Qz{R:aH}{q:bM}(h:q.Rd R)(h0:q.ms.length<=60000)(h1:q.rs.length<=60000)(h2:q.ss.length<=60000)(h3:q.es.length<=4611686018427387904):CP [] 48 [.agg q.a] [.res R] (fun v H'=>v=bA q.sound/\∃G,H'=.res R::G):=by
  refine ae U rfl ?_;repeat' ((conv=>whnf);first|with_reducible apply aa<;>intro _|(refine (NA h h0 h1 h2).use [0] rfl rfl ⟨ko,tU⟩ ?_;rintro _ _ ⟨rfl,G,rfl⟩;refine ⟨[],?_⟩)|(refine (ND h h1 h2).use [0] rfl rfl ⟨ko,tU⟩ ?_;rintro _ _ ⟨rfl,G,rfl⟩;refine ⟨[],?_⟩)|(refine (TI rfl h3 h.es).use [0] rfl rfl ⟨ko,tU⟩ ?_;rintro _ _ ⟨rfl,rfl⟩;refine ⟨[],?_⟩))
  all_goals (try conv=>whnf)
  all_goals
    refine ⟨bh ?_,_,rfl⟩
    clear h
    unfold bM.sound
    generalize q.ak=a1 at *
    generalize (q.rs.all cw.bB&&q.ss.all eA.bB)=a2 at *
    generalize (q.es.any fun m=>!m.dQ)=a3 at *
    simp_all
  all_goals omega
end Go.Proofs.YtmbdghclhpboaaaGreat
