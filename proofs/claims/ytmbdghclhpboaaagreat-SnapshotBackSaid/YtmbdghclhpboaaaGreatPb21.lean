/- Part of the proof: Ten. Conditions: as each states. -/
import Derived.Test.YtmbdghclhpboaaaGreatPb20
set_option linter.all false
set_option maxRecDepth 100000
namespace Go.Proofs.YtmbdghclhpboaaaGreat
open Ev
theorem app_int:AppT ev 187 3 1:=⟨⟨_,rfl,rfl⟩,_,_,rfl,rfl,rfl,rfl,by decide⟩
structure Rcd where
  id:Int
  x:Int
  y:Int
  label:Int
def rcC(r:Rcd):Value:=.agg #[.int .i64 r.id,.int .i64 r.x,.int .i64 r.y,.int .i64 r.label]
def rcdA(r:Rcd):List AV:=[iA r.id,iA r.x,iA r.y,iA r.label]
structure Shp where
  id:Int
  x0:Int
  y0:Int
  x1:Int
  y1:Int
  label:Int
def shC(s:Shp):Value:=.agg #[.int .i64 s.id,.int .i64 s.x0,.int .i64 s.y0,.int .i64 s.x1,.int .i64 s.y1,.int .i64 s.label]
def shpA(s:Shp):List AV:=[iA s.id,iA s.x0,iA s.y0,iA s.x1,iA s.y1,iA s.label]
theorem fnumM{S:List Nat}{H:List AObj}{K:AV→List AObj→Prop}{m:Mem}(k:K (iA m.user) H):CP S 201 [.agg (mA m)] H K:=by
  refine CallS.pure ?_ (fun _=>rfl) (fun _=>rfl) k
  refine fn_ok ev_ok rfl ?_
  repeat' ((conv=>whnf);first|with_reducible apply brP_of<;>intro _|refine fn_ok ev_ok rfl ?_)
  all_goals first|rfl|(conv=>whnf)
theorem tofM {R : Res} {oa : Option Addr} {n c : Nat} {l : List Mem} (hn : l.length = n) (hl : n ≤ 60000) (h : RdV Tryz.prog R 51 6 oa mC l) :
    CP [] 200 [.lit (.slice oa n c),.lit (.func (.func 201) #[] #[])] [.res R] (fun v H'=>v=svA 1 1 n∧H'=.res R::svH (l.map fun m=>iK m.user) 3 n):=by
  refine fn_ok ev_ok rfl ?_
  conv=>whnf
  refine loopP ev_ok rfl (fun k:Nat=>[(1,.lit (.func (.func 201) #[] #[])),(8,.lit (.slice oa n c)),(9,iA n),(10,iA (k:Nat)),(5,svA 1 1 k)]) (fun k=>.res R::svH ((l.take k).map fun m=>iK m.user) 3 k) (·≤n) (fun k=>n - k) 0 (Nat.zero_le _) [0] ?_ ?_
  · exact ⟨rfl,⟨⟨rfl,rfl⟩,⟨rfl,rfl⟩,⟨rfl,rfl⟩,⟨rfl,rfl⟩,⟨rfl,rfl⟩,tU⟩,⟨⟨_,rfl,kp⟩,tU⟩⟩
  · intro k hk0
    by_cases hk:k<n
    · have hkl:k<l.length:=by omega
      have hs:=take_snoc hkl
      obtain ⟨a,rfl,hrd⟩:=h.at hkl
      rcases k with _|k
      all_goals
        conv=>whnf
        refine brP_of (fun _=>?_) (noF hk)
        conv=>whnf
        refine OpP.idxL ev_ok rfl rfl rfl rfl rfl hk ?_
        conv=>whnf
        refine OpP.loadR (i:=0) (v:=.agg (mA l[_])) rfl (fun w S hR=>hrd w S hR _ hkl) rfl rfl ?_
        conv=>whnf
        refine fnumM ?_
        conv=>whnf
        first
          | refine AppP.nil app_int rfl rfl rfl rfl rfl ?_
          | refine AppP.own app_int rfl rfl rfl rfl rfl rfl (by simp;omega) (by omega) ?_
        conv=>whnf
      · exact ⟨1,[0,3],⟨hk,by omega⟩,rfl,⟨⟨rfl,rfl⟩,⟨rfl,rfl⟩,⟨rfl,rfl⟩,⟨rfl,subInt rfl rfl⟩,⟨rfl,rfl⟩,tU⟩,⟨⟨_,rfl,kp⟩,⟨_,rfl,by rw[hs];rfl⟩,tU⟩⟩
      · exact ⟨k+2,[0,4],⟨hk,by omega⟩,rfl,⟨⟨rfl,rfl⟩,⟨rfl,rfl⟩,⟨rfl,rfl⟩,⟨rfl,subInt rfl (wrap_in (by omega) (by omega))⟩,⟨rfl,rfl⟩,tU⟩,⟨⟨_,rfl,kp⟩,⟨_,rfl,by rw[hs,List.map_append];rfl⟩,tU⟩⟩
    · obtain rfl:k=n:=by omega
      have ht:l.take k=l:=by rw[←hn,List.take_length]
      rcases k with _|k
      · conv=>whnf
        rw[ht]
        exact ⟨rfl,rfl⟩
      · conv=>whnf
        refine brP_of (noT hk) (fun _=>?_)
        conv=>whnf
        rw[ht]
        exact ⟨rfl,rfl⟩
theorem fnumR{S:List Nat}{H:List AObj}{K:AV→List AObj→Prop}{m:Rcd}(k:K (iA m.id) H):CP S 207 [.agg (rcdA m)] H K:=by
  refine CallS.pure ?_ (fun _=>rfl) (fun _=>rfl) k
  refine fn_ok ev_ok rfl ?_
  repeat' ((conv=>whnf);first|with_reducible apply brP_of<;>intro _|refine fn_ok ev_ok rfl ?_)
  all_goals first|rfl|(conv=>whnf)
theorem tofR {R : Res} {oa : Option Addr} {n c : Nat} {l : List Rcd} (hn : l.length = n) (hl : n ≤ 60000) (h : RdV Tryz.prog R 72 4 oa rcC l) :
    CP [] 206 [.lit (.slice oa n c),.lit (.func (.func 207) #[] #[])] [.res R] (fun v H'=>v=svA 1 1 n∧H'=.res R::svH (l.map fun m=>iK m.id) 3 n):=by
  refine fn_ok ev_ok rfl ?_
  conv=>whnf
  refine loopP ev_ok rfl (fun k:Nat=>[(1,.lit (.func (.func 207) #[] #[])),(8,.lit (.slice oa n c)),(9,iA n),(10,iA (k:Nat)),(5,svA 1 1 k)]) (fun k=>.res R::svH ((l.take k).map fun m=>iK m.id) 3 k) (·≤n) (fun k=>n - k) 0 (Nat.zero_le _) [0] ?_ ?_
  · exact ⟨rfl,⟨⟨rfl,rfl⟩,⟨rfl,rfl⟩,⟨rfl,rfl⟩,⟨rfl,rfl⟩,⟨rfl,rfl⟩,tU⟩,⟨⟨_,rfl,kp⟩,tU⟩⟩
  · intro k hk0
    by_cases hk:k<n
    · have hkl:k<l.length:=by omega
      have hs:=take_snoc hkl
      obtain ⟨a,rfl,hrd⟩:=h.at hkl
      rcases k with _|k
      all_goals
        conv=>whnf
        refine brP_of (fun _=>?_) (noF hk)
        conv=>whnf
        refine OpP.idxL ev_ok rfl rfl rfl rfl rfl hk ?_
        conv=>whnf
        refine OpP.loadR (i:=0) (v:=.agg (rcdA l[_])) rfl (fun w S hR=>hrd w S hR _ hkl) rfl rfl ?_
        conv=>whnf
        refine fnumR ?_
        conv=>whnf
        first
          | refine AppP.nil app_int rfl rfl rfl rfl rfl ?_
          | refine AppP.own app_int rfl rfl rfl rfl rfl rfl (by simp;omega) (by omega) ?_
        conv=>whnf
      · exact ⟨1,[0,3],⟨hk,by omega⟩,rfl,⟨⟨rfl,rfl⟩,⟨rfl,rfl⟩,⟨rfl,rfl⟩,⟨rfl,subInt rfl rfl⟩,⟨rfl,rfl⟩,tU⟩,⟨⟨_,rfl,kp⟩,⟨_,rfl,by rw[hs];rfl⟩,tU⟩⟩
      · exact ⟨k+2,[0,4],⟨hk,by omega⟩,rfl,⟨⟨rfl,rfl⟩,⟨rfl,rfl⟩,⟨rfl,rfl⟩,⟨rfl,subInt rfl (wrap_in (by omega) (by omega))⟩,⟨rfl,rfl⟩,tU⟩,⟨⟨_,rfl,kp⟩,⟨_,rfl,by rw[hs,List.map_append];rfl⟩,tU⟩⟩
    · obtain rfl:k=n:=by omega
      have ht:l.take k=l:=by rw[←hn,List.take_length]
      rcases k with _|k
      · conv=>whnf
        rw[ht]
        exact ⟨rfl,rfl⟩
      · conv=>whnf
        refine brP_of (noT hk) (fun _=>?_)
        conv=>whnf
        rw[ht]
        exact ⟨rfl,rfl⟩
theorem fnumS{S:List Nat}{H:List AObj}{K:AV→List AObj→Prop}{m:Shp}(k:K (iA m.id) H):CP S 209 [.agg (shpA m)] H K:=by
  refine CallS.pure ?_ (fun _=>rfl) (fun _=>rfl) k
  refine fn_ok ev_ok rfl ?_
  repeat' ((conv=>whnf);first|with_reducible apply brP_of<;>intro _|refine fn_ok ev_ok rfl ?_)
  all_goals first|rfl|(conv=>whnf)
theorem tofS {R : Res} {oa : Option Addr} {n c : Nat} {l : List Shp} (hn : l.length = n) (hl : n ≤ 60000) (h : RdV Tryz.prog R 78 6 oa shC l) :
    CP [] 208 [.lit (.slice oa n c),.lit (.func (.func 209) #[] #[])] [.res R] (fun v H'=>v=svA 1 1 n∧H'=.res R::svH (l.map fun m=>iK m.id) 3 n):=by
  refine fn_ok ev_ok rfl ?_
  conv=>whnf
  refine loopP ev_ok rfl (fun k:Nat=>[(1,.lit (.func (.func 209) #[] #[])),(8,.lit (.slice oa n c)),(9,iA n),(10,iA (k:Nat)),(5,svA 1 1 k)]) (fun k=>.res R::svH ((l.take k).map fun m=>iK m.id) 3 k) (·≤n) (fun k=>n - k) 0 (Nat.zero_le _) [0] ?_ ?_
  · exact ⟨rfl,⟨⟨rfl,rfl⟩,⟨rfl,rfl⟩,⟨rfl,rfl⟩,⟨rfl,rfl⟩,⟨rfl,rfl⟩,tU⟩,⟨⟨_,rfl,kp⟩,tU⟩⟩
  · intro k hk0
    by_cases hk:k<n
    · have hkl:k<l.length:=by omega
      have hs:=take_snoc hkl
      obtain ⟨a,rfl,hrd⟩:=h.at hkl
      rcases k with _|k
      all_goals
        conv=>whnf
        refine brP_of (fun _=>?_) (noF hk)
        conv=>whnf
        refine OpP.idxL ev_ok rfl rfl rfl rfl rfl hk ?_
        conv=>whnf
        refine OpP.loadR (i:=0) (v:=.agg (shpA l[_])) rfl (fun w S hR=>hrd w S hR _ hkl) rfl rfl ?_
        conv=>whnf
        refine fnumS ?_
        conv=>whnf
        first
          | refine AppP.nil app_int rfl rfl rfl rfl rfl ?_
          | refine AppP.own app_int rfl rfl rfl rfl rfl rfl (by simp;omega) (by omega) ?_
        conv=>whnf
      · exact ⟨1,[0,3],⟨hk,by omega⟩,rfl,⟨⟨rfl,rfl⟩,⟨rfl,rfl⟩,⟨rfl,rfl⟩,⟨rfl,subInt rfl rfl⟩,⟨rfl,rfl⟩,tU⟩,⟨⟨_,rfl,kp⟩,⟨_,rfl,by rw[hs];rfl⟩,tU⟩⟩
      · exact ⟨k+2,[0,4],⟨hk,by omega⟩,rfl,⟨⟨rfl,rfl⟩,⟨rfl,rfl⟩,⟨rfl,rfl⟩,⟨rfl,subInt rfl (wrap_in (by omega) (by omega))⟩,⟨rfl,rfl⟩,tU⟩,⟨⟨_,rfl,kp⟩,⟨_,rfl,by rw[hs,List.map_append];rfl⟩,tU⟩⟩
    · obtain rfl:k=n:=by omega
      have ht:l.take k=l:=by rw[←hn,List.take_length]
      rcases k with _|k
      · conv=>whnf
        rw[ht]
        exact ⟨rfl,rfl⟩
      · conv=>whnf
        refine brP_of (noT hk) (fun _=>?_)
        conv=>whnf
        rw[ht]
        exact ⟨rfl,rfl⟩
def Mem.enrolled(m:Mem):Bool:=if m.user=0 then decide (m.role=0∧m.tier=0∧m.quota=65535∧m.k=0∧m.area=0)
  else Mem.right { m with k:=0,area:=0 }&&(decide (m.k=0∧m.area=0) || decide (1≤m.k∧m.k≤65535))
theorem fenrolled{S:List Nat}{H:List AObj}{K:AV→List AObj→Prop}{m:Mem}(k:K (bA m.enrolled) H):CP S 205 [.agg (mA m)] H K:=by
  refine CallS.pure ?_ (fun _=>rfl) (fun _=>rfl) k
  refine fn_ok ev_ok rfl ?_
  repeat' ((conv=>whnf);first|with_reducible apply brP_of<;>intro _|refine rright (m:={ m with k:=0,area:=0 }) ?_|refine fn_ok ev_ok rfl ?_)
  all_goals
    refine bA_eq ?_
    unfold Mem.enrolled
    simp_all
  all_goals omega
theorem wrap_eq{a b:Int}(h:a=b∧-9223372036854775808≤b∧b≤9223372036854775807):IntKind.i64.wrap a=b:=by rw[h.1];exact wrap_in h.2.1 h.2.2
def rises2:Int→List Int→Bool
  | _,[]=>true
  | p,x::r=>decide (p<x)&&rises2 x r
def risingB:List Int→Bool
  | []=>true
  | x::r=>rises2 x r
theorem drop_cons{α:Type}{l:List α}{k:Nat}(h:k<l.length):l.drop k=l[k]::l.drop (k+1):=List.drop_eq_getElem_cons h
theorem frising{n:Nat}{l:List Int}{c:Cap}(hn:l.length=n+1)(hl:n≤60000):CP [] 202 [.slice 0 0 (n+1) c] [.row (l.map iK) 3] (fun v H'=>v=bA (risingB l)∧H'=[.row (l.map iK) 3]):=by
  refine fn_ok ev_ok rfl ?_
  conv=>whnf
  refine loopP ev_ok rfl (fun k:Nat=>[(0,.slice 0 0 (n+1) c),(3,iA ((k+1:Nat):Int))]) (fun _=>[.row (l.map iK) 3]) (fun k=>k≤n∧∀h:k<l.length,risingB l=rises2 l[k] (l.drop (k+1))) (fun k=>n - k) 0 ⟨Nat.zero_le _,fun h=>?_⟩ [0] ?_ ?_
  · cases l with
    | nil=>simp at hn
    | cons x r=>rfl
  · exact ⟨rfl,⟨⟨rfl,rfl⟩,⟨rfl,rfl⟩,tU⟩,⟨⟨_,rfl,rfl⟩,tU⟩⟩
  · rintro k ⟨hk0,hr⟩
    have hr:=hr (by omega)
    by_cases hk:k+1<n+1
    · have hkl:k+1<l.length:=by omega
      rw[drop_cons hkl] at hr
      simp only[rises2] at hr
      conv=>whnf
      refine brP_of (fun _=>?_) (noF hk)
      repeat' ((conv=>whnf);first|with_reducible apply brP_of<;>intro _|refine WpS.drawn ev_ok rfl rfl ?_|with_reducible refine And.intro (AgP.mk ⟨_,rfl,rfl⟩) ?_|refine IdxP.of (k:=k+1) rfl hk ?_|refine IdxP.of (k:=k) (wrap_eq (by omega)) (by omega) ?_|refine RowP.val (i:=k+1) hkl ?_|refine RowP.val (i:=k) (by omega) ?_|refine fn_ok ev_ok rfl ?_)
      all_goals conv=>whnf
      · rename_i h
        have h:=of_decide_eq_true h
        exact ⟨bA_eq (by rw[hr,decide_eq_false (by omega)];rfl),rfl⟩
      · rename_i h
        have h:=of_decide_eq_false h
        exact ⟨k+1,[0],⟨⟨by omega,fun _=>by rw[hr,decide_eq_true (by omega),Bool.true_and]⟩,by omega⟩,rfl,⟨⟨rfl,rfl⟩,⟨rfl,subInt rfl (wrap_eq (by omega))⟩,tU⟩,⟨⟨_,rfl,rfl⟩,tU⟩⟩
    · obtain rfl:k=n:=by omega
      rw[show l.drop (k+1)=[] by rw[←hn,List.drop_length]] at hr
      conv=>whnf
      refine brP_of (noT hk) (fun _=>?_)
      conv=>whnf
      exact ⟨bA_eq hr.symm,rfl⟩
theorem fcontains{n:Nat}{l:List Int}{x:Int}{c:Cap}(hn:l.length=n+1)(hl:n≤60000):CP [] 211 [.slice 0 0 (n+1) c,iA x] [.row (l.map iK) 3] (fun v H'=>v=bA (l.any fun y=>x==y)∧H'=[.row (l.map iK) 3]):=by
  refine fn_ok ev_ok rfl ?_
  conv=>whnf
  refine fn_ok ev_ok rfl ?_
  conv=>whnf
  refine loopP ev_ok rfl (fun k:Nat=>[(0,.slice 0 0 (n+1) c),(1,iA x),(7,iA ((n+1:Nat):Int)),(8,iA (k:Nat))]) (fun _=>[.row (l.map iK) 3]) (fun k=>k≤n+1∧(l.any fun y=>x==y)=((l.drop k).any fun y=>x==y)) (fun k=>n+1 - k) 0 ⟨Nat.zero_le _,rfl⟩ [0] ?_ ?_
  · exact ⟨rfl,⟨⟨rfl,rfl⟩,⟨rfl,rfl⟩,⟨rfl,rfl⟩,⟨rfl,rfl⟩,tU⟩,⟨⟨_,rfl,rfl⟩,tU⟩⟩
  · rintro k ⟨hk0,hr⟩
    by_cases hk:k<n+1
    · have hkl:k<l.length:=by omega
      rw[drop_cons hkl,List.any_cons] at hr
      conv=>whnf
      refine brP_of (fun _=>?_) (noF hk)
      repeat' ((conv=>whnf);first|with_reducible apply brP_of<;>intro _|refine IdxP.of rfl hk ?_|refine RowP.val hkl ?_|refine fn_ok ev_ok rfl ?_)
      all_goals (try conv=>whnf)
      · rename_i h
        exact ⟨bA_eq (by rw[hr,h];rfl),rfl⟩
      · rename_i h
        exact ⟨k+1,[0],⟨⟨hk,by rw[hr,h,Bool.false_or]⟩,by omega⟩,rfl,⟨⟨rfl,rfl⟩,⟨rfl,rfl⟩,⟨rfl,rfl⟩,⟨rfl,subInt rfl (wrap_in (by omega) (by omega))⟩,tU⟩,⟨⟨_,rfl,rfl⟩,tU⟩⟩
    · obtain rfl:k=n+1:=by omega
      rw[show l.drop (n+1)=[] by rw[←hn,List.drop_length]] at hr
      conv=>whnf
      refine brP_of (noT hk) (fun _=>?_)
      conv=>whnf
      exact ⟨bA_eq hr.symm,rfl⟩
structure Evn where
  user:Int
  op:Int
  status:Int
  tick:Int
def evC(e:Evn):Value:=.agg #[.int .i64 e.user,.int .i64 e.op,.int .i64 e.status,.int .i64 e.tick]
def evA(e:Evn):List AV:=[iA e.user,iA e.op,iA e.status,iA e.tick]
def Evn.happened(e:Evn):Bool:=decide (0≤e.user∧e.user≤65535∧1≤e.op∧e.op≤19∧0≤e.status∧e.status≤12∧0≤e.tick∧e.tick≤4294967295)
theorem fnothap{S:List Nat}{H:List AObj}{K:AV→List AObj→Prop}{m:Evn}(k:K (bA (!m.happened)) H):CP S 124 [.agg (evA m)] H K:=by
  refine CallS.pure ?_ (fun _=>rfl) (fun _=>rfl) k
  refine fn_ok ev_ok rfl ?_
  repeat' ((conv=>whnf);first|with_reducible apply brP_of<;>intro _|refine fn_ok ev_ok rfl ?_)
  all_goals
    refine bA_eq ?_
    unfold Evn.happened
    simp_all
  all_goals omega
theorem fnotenr{S:List Nat}{H:List AObj}{K:AV→List AObj→Prop}{m:Mem}(k:K (bA (!m.enrolled)) H):CP S 204 [.agg (mA m)] H K:=by
  refine CallS.pure ?_ (fun _=>rfl) (fun _=>rfl) k
  refine fn_ok ev_ok rfl ?_
  repeat' ((conv=>whnf);first|with_reducible apply brP_of<;>intro _|refine fenrolled ?_|refine fn_ok ev_ok rfl ?_)
  all_goals
    refine bA_eq ?_
    simp_all
theorem fanyM {R : Res} {oa : Option Addr} {n c : Nat} {l : List Mem} (hn : l.length = n) (hl : n ≤ 4611686018427387904) (h : RdV Tryz.prog R 51 6 oa mC l) :
    CP [] 203 [.lit (.slice oa n c),.lit (.func (.func 204) #[] #[])] [.res R] (fun v H'=>v=bA (l.any fun m=>!m.enrolled)∧H'=[.res R]):=by
  refine fn_ok ev_ok rfl ?_
  conv=>whnf
  refine fn_ok ev_ok rfl ?_
  conv=>whnf
  refine loopP ev_ok rfl (fun k:Nat=>[(0,.lit (.slice oa n c)),(1,.lit (.func (.func 204) #[] #[])),(7,iA (n:Nat)),(8,iA (k:Nat))]) (fun _=>[.res R]) (fun k=>k≤n∧(l.any fun m=>!m.enrolled)=((l.drop k).any fun m=>!m.enrolled)) (fun k=>n - k) 0 ⟨Nat.zero_le _,rfl⟩ [0] ?_ ?_
  · exact ⟨rfl,⟨⟨rfl,rfl⟩,⟨rfl,rfl⟩,⟨rfl,rfl⟩,⟨rfl,rfl⟩,tU⟩,⟨⟨_,rfl,kp⟩,tU⟩⟩
  · rintro k ⟨hk0,hr⟩
    by_cases hk:k<n
    · have hkl:k<l.length:=by omega
      obtain ⟨a,rfl,hrd⟩:=h.at hkl
      rw[drop_cons hkl,List.any_cons] at hr
      conv=>whnf
      refine brP_of (fun _=>?_) (noF hk)
      repeat' ((conv=>whnf);first|with_reducible apply brP_of<;>intro _|refine OpP.idxL ev_ok rfl rfl rfl rfl rfl hk ?_|refine OpP.loadR (i:=0) (v:=.agg (mA l[k])) rfl (fun w S hR=>hrd w S hR k hkl) rfl rfl ?_|refine fnotenr ?_|refine fn_ok ev_ok rfl ?_)
      all_goals (try conv=>whnf)
      · rename_i h
        exact ⟨bA_eq (by rw[hr,h];rfl),rfl⟩
      · rename_i h
        exact ⟨k+1,[0],⟨⟨hk,by rw[hr,h,Bool.false_or]⟩,by omega⟩,rfl,⟨⟨rfl,rfl⟩,⟨rfl,rfl⟩,⟨rfl,rfl⟩,⟨rfl,subInt rfl (wrap_in (by omega) (by omega))⟩,tU⟩,⟨⟨_,rfl,kp⟩,tU⟩⟩
    · obtain rfl:k=n:=by omega
      rw[show l.drop k=[] by rw[←hn,List.drop_length]] at hr
      have hz:((k:Nat):Int)<(k:Nat)→False:=fun h=>by omega
      conv=>whnf
      first
        | exact ⟨bA_eq hr.symm,rfl⟩
        | (refine brP_of (noT hk) (fun _ => ?_)
           conv=>whnf
           exact ⟨bA_eq hr.symm,rfl⟩)
theorem fanyE {R : Res} {oa : Option Addr} {n c : Nat} {l : List Evn} (hn : l.length = n) (hl : n ≤ 4611686018427387904) (h : RdV Tryz.prog R 81 4 oa evC l) :
    CP [] 123 [.lit (.slice oa n c),.lit (.func (.func 124) #[] #[])] [.res R] (fun v H'=>v=bA (l.any fun m=>!m.happened)∧H'=[.res R]):=by
  refine fn_ok ev_ok rfl ?_
  conv=>whnf
  refine fn_ok ev_ok rfl ?_
  conv=>whnf
  refine loopP ev_ok rfl (fun k:Nat=>[(0,.lit (.slice oa n c)),(1,.lit (.func (.func 124) #[] #[])),(7,iA (n:Nat)),(8,iA (k:Nat))]) (fun _=>[.res R]) (fun k=>k≤n∧(l.any fun m=>!m.happened)=((l.drop k).any fun m=>!m.happened)) (fun k=>n - k) 0 ⟨Nat.zero_le _,rfl⟩ [0] ?_ ?_
  · exact ⟨rfl,⟨⟨rfl,rfl⟩,⟨rfl,rfl⟩,⟨rfl,rfl⟩,⟨rfl,rfl⟩,tU⟩,⟨⟨_,rfl,kp⟩,tU⟩⟩
  · rintro k ⟨hk0,hr⟩
    by_cases hk:k<n
    · have hkl:k<l.length:=by omega
      obtain ⟨a,rfl,hrd⟩:=h.at hkl
      rw[drop_cons hkl,List.any_cons] at hr
      conv=>whnf
      refine brP_of (fun _=>?_) (noF hk)
      repeat' ((conv=>whnf);first|with_reducible apply brP_of<;>intro _|refine OpP.idxL ev_ok rfl rfl rfl rfl rfl hk ?_|refine OpP.loadR (i:=0) (v:=.agg (evA l[k])) rfl (fun w S hR=>hrd w S hR k hkl) rfl rfl ?_|refine fnothap ?_|refine fn_ok ev_ok rfl ?_)
      all_goals (try conv=>whnf)
      · rename_i h
        exact ⟨bA_eq (by rw[hr,h];rfl),rfl⟩
      · rename_i h
        exact ⟨k+1,[0],⟨⟨hk,by rw[hr,h,Bool.false_or]⟩,by omega⟩,rfl,⟨⟨rfl,rfl⟩,⟨rfl,rfl⟩,⟨rfl,rfl⟩,⟨rfl,subInt rfl (wrap_in (by omega) (by omega))⟩,tU⟩,⟨⟨_,rfl,kp⟩,tU⟩⟩
    · obtain rfl:k=n:=by omega
      rw[show l.drop k=[] by rw[←hn,List.drop_length]] at hr
      have hz:((k:Nat):Int)<(k:Nat)→False:=fun h=>by omega
      conv=>whnf
      first
        | exact ⟨bA_eq hr.symm,rfl⟩
        | (refine brP_of (noT hk) (fun _ => ?_)
           conv=>whnf
           exact ⟨bA_eq hr.symm,rfl⟩)
theorem fstranger {n m : Nat} {l us : List Int} {c c' : Cap} (hn : l.length = n + 1) (hl : n ≤ 60000) (hm : us.length = m + 1) (hm1 : m ≤ 60000) :
    CP [] 212 [.slice 0 0 (n+1) c,.func (.func 210) [] [.ptr 1 0]] [.row (l.map iK) 3,.cells [.slice 2 0 (m+1) c'] 187,.row (us.map iK) 3] (fun v H'=>v=bA (l.any fun x=>!us.any fun y=>x==y)∧∃G,H'=[.row (l.map iK) 3,.cells [.slice 2 0 (m+1) c'] 187,.row (us.map iK) 3]++G):=by
  refine fn_ok ev_ok rfl ?_
  conv=>whnf
  refine fn_ok ev_ok rfl ?_
  conv=>whnf
  refine loopP ev_ok rfl (fun k:Nat=>[(0,.slice 0 0 (n+1) c),(1,.func (.func 210) [] [.ptr 1 0]),(7,iA ((n+1:Nat):Int)),(8,iA (k:Nat))]) (fun _=>[.row (l.map iK) 3,.cells [.slice 2 0 (m+1) c'] 187,.row (us.map iK) 3]) (fun k=>k≤n+1∧(l.any fun x=>!us.any fun y=>x==y)=((l.drop k).any fun x=>!us.any fun y=>x==y)) (fun k=>n+1 - k) 0 ⟨Nat.zero_le _,rfl⟩ [0,1,2] ?_ ?_
  · exact ⟨rfl,⟨⟨rfl,rfl⟩,⟨rfl,rfl⟩,⟨rfl,rfl⟩,⟨rfl,rfl⟩,tU⟩,⟨⟨_,rfl,rfl⟩,⟨_,rfl,rfl⟩,⟨_,rfl,rfl⟩,tU⟩⟩
  · rintro k ⟨hk0,hr⟩
    by_cases hk:k<n+1
    · have hkl:k<l.length:=by omega
      rw[drop_cons hkl,List.any_cons] at hr
      conv=>whnf
      refine brP_of (fun _=>?_) (noF hk)
      repeat' ((conv=>whnf);first|with_reducible apply brP_of<;>intro _|refine IdxP.of rfl hk ?_|refine RowP.val hkl ?_|(refine (fcontains (x:=l[k]) hm hm1).use [2] rfl rfl ⟨⟨_,rfl,rfl⟩,tU⟩ ?_;rintro _ _ ⟨rfl,rfl⟩;refine ⟨[],?_⟩)|refine fn_ok ev_ok rfl ?_)
      all_goals (try conv=>whnf)
      · rename_i h
        exact ⟨k+1,[0,1,2],⟨⟨hk,by rw[hr,h];rfl⟩,by omega⟩,rfl,⟨⟨rfl,rfl⟩,⟨rfl,rfl⟩,⟨rfl,rfl⟩,⟨rfl,subInt rfl (wrap_in (by omega) (by omega))⟩,tU⟩,⟨⟨_,rfl,rfl⟩,⟨_,rfl,rfl⟩,⟨_,rfl,rfl⟩,tU⟩⟩
      · rename_i h
        exact ⟨bA_eq (by rw[hr,h];rfl),_,rfl⟩
    · obtain rfl:k=n+1:=by omega
      rw[show l.drop (n+1)=[] by rw[←hn,List.drop_length]] at hr
      conv=>whnf
      refine brP_of (noT hk) (fun _=>?_)
      conv=>whnf
      exact ⟨bA_eq hr.symm,[],rfl⟩
theorem fstranger0{p:Nat}{H:List AObj}:CP [] 212 [.lit (.slice none 0 0),.func (.func 210) [] [.ptr p 0]] H (fun v H'=>v=bA false∧H'=H):=by
  refine fn_ok ev_ok rfl ?_
  conv=>whnf
  refine fn_ok ev_ok rfl ?_
  conv=>whnf
  refine RdS.loop 1 (RdS.step ev_ok rfl ?_)
  conv=>whnf
  exact ⟨rfl,rfl⟩
theorem frising0:CP [] 202 [.lit (.slice none 0 0)] [] (fun v _=>v=bA true):=by
  refine fn_ok ev_ok rfl ?_
  conv=>whnf
  refine RdS.loop 1 (RdS.step ev_ok rfl ?_)
  conv=>whnf
structure Sta where
  ms:List Mem
  nt:Nat
  rs:List Rcd
  ss:List Shp
  tx:ByteArray
  es:List Evn
  past:Int
  om:Option Addr
  ot:Option Addr
  orr:Option Addr
  os:Option Addr
  oe:Option Addr
  cm:Nat
  ct:Nat
  cr:Nat
  cs:Nat
  ce:Nat
def Sta.a(q:Sta):List AV:=[.lit (.slice q.om q.ms.length q.cm),.lit (.slice q.ot q.nt q.ct),.lit (.slice q.orr q.rs.length q.cr),.lit (.slice q.os q.ss.length q.cs),.lit (.string q.tx),.lit (.slice q.oe q.es.length q.ce),iA q.past]
structure Sta.Rd(R:Res)(q:Sta):Prop where
  ms:RdV Tryz.prog R 51 6 q.om mC q.ms
  rs:RdV Tryz.prog R 72 4 q.orr rcC q.rs
  ss:RdV Tryz.prog R 78 6 q.os shC q.ss
  es:RdV Tryz.prog R 81 4 q.oe evC q.es
def Rcd.placed(r:Rcd):Bool:=fits r.x r.y&&decide (0≤r.label∧r.label≤7)
def Shp.placed(s:Shp):Bool:=rcOk s.x0 s.y0 s.x1 s.y1&&decide (0≤s.label∧s.label≤7)
theorem fplaced{R:Res}{q:Sta}(h:q.Rd R)(h1:q.rs.length≤60000)(h2:q.ss.length≤60000):CP [] 122 [.agg q.a] [.res R] (fun v H'=>v=bA (q.rs.all Rcd.placed&&q.ss.all Shp.placed)∧∃G,H'=.res R::G):=by
  refine fn_ok ev_ok rfl ?_
  conv=>whnf
  refine loopP ev_ok rfl (fun k:Nat=>[(1,.ptr 1 0),(8,.lit (.slice q.orr q.rs.length q.cr)),(9,iA q.rs.length),(10,iA (k:Nat))]) (fun _=>[.res R,.cells q.a 28]) (fun k=>k≤q.rs.length∧q.rs.all Rcd.placed=(q.rs.drop k).all Rcd.placed) (fun k=>q.rs.length - k) 0 ⟨Nat.zero_le _,rfl⟩ [0,1] ?_ ?_
  · exact ⟨rfl,⟨⟨rfl,rfl⟩,⟨rfl,rfl⟩,⟨rfl,rfl⟩,⟨rfl,rfl⟩,tU⟩,⟨⟨_,rfl,kp⟩,⟨_,rfl,rfl⟩,tU⟩⟩
  · rintro k ⟨hk0,hr⟩
    by_cases hk:k<q.rs.length
    · obtain ⟨a,ha,hrd⟩:=h.rs.at hk
      rw[drop_cons hk,List.all_cons] at hr
      simp only[ha]
      conv=>whnf
      refine brP_of (fun _=>?_) (noF hk)
      repeat' ((conv=>whnf);first|with_reducible apply brP_of<;>intro _|refine OpP.idxL ev_ok rfl rfl rfl rfl rfl hk ?_|refine OpP.loadR (i:=0) (v:=.agg (rcdA q.rs[k])) rfl (fun w S hR=>hrd w S hR k hk) rfl rfl ?_|refine fn_ok ev_ok rfl ?_)
      all_goals (try conv=>whnf)
      all_goals
        simp only[decide_eq_true_eq,decide_eq_false_iff_not] at *
      all_goals first
        | (have hp : q.rs[k].placed = true := by unfold Rcd.placed fits; rw [Bool.and_eq_true, decide_eq_true_eq, decide_eq_true_eq]; omega
           exact ⟨k+1,[0,1],⟨⟨hk,by rw[hr,hp,Bool.true_and]⟩,by omega⟩,rfl,⟨⟨rfl,rfl⟩,⟨rfl,rfl⟩,⟨rfl,rfl⟩,⟨rfl,subInt rfl (wrap_in (by omega) (by omega))⟩,tU⟩,⟨⟨_,rfl,kp⟩,⟨_,rfl,rfl⟩,tU⟩⟩)
        | (have hp : q.rs[k].placed = false := Bool.eq_false_iff.2 (by unfold Rcd.placed fits; rw [ne_eq, Bool.and_eq_true, decide_eq_true_eq, decide_eq_true_eq]; omega)
           exact ⟨bA_eq (by rw[hr,hp];rfl),_,rfl⟩)
        | trace_state
    · obtain rfl:k=q.rs.length:=by omega
      rw[List.drop_length] at hr
      conv=>whnf
      refine brP_of (noT hk) (fun _=>?_)
      conv=>whnf
      rw[hr]
      refine loopP ev_ok rfl (fun k:Nat=>[(1,.ptr 1 0),(26,.lit (.slice q.os q.ss.length q.cs)),(27,iA q.ss.length),(28,iA (k:Nat))]) (fun _=>[.res R,.cells q.a 28]) (fun k=>k≤q.ss.length∧q.ss.all Shp.placed=(q.ss.drop k).all Shp.placed) (fun k=>q.ss.length - k) 0 ⟨Nat.zero_le _,rfl⟩ [0,1] ?_ ?_
      · exact ⟨rfl,⟨⟨rfl,rfl⟩,⟨rfl,rfl⟩,⟨rfl,rfl⟩,⟨rfl,rfl⟩,tU⟩,⟨⟨_,rfl,kp⟩,⟨_,rfl,rfl⟩,tU⟩⟩
      · rintro k ⟨hk0,hr⟩
        by_cases hk:k<q.ss.length
        · obtain ⟨a,ha,hrd⟩:=h.ss.at hk
          rw[drop_cons hk,List.all_cons] at hr
          simp only[ha]
          conv=>whnf
          refine brP_of (fun _=>?_) (noF hk)
          repeat' ((conv=>whnf);first|with_reducible apply brP_of<;>intro _|refine OpP.idxL ev_ok rfl rfl rfl rfl rfl hk ?_|refine OpP.loadR (i:=0) (v:=.agg (shpA q.ss[k])) rfl (fun w S hR=>hrd w S hR k hk) rfl rfl ?_|refine sright ?_|refine fn_ok ev_ok rfl ?_)
          all_goals (try conv=>whnf)
          all_goals
            simp only[decide_eq_true_eq,decide_eq_false_iff_not] at *
          all_goals first
            | (have hp : q.ss[k].placed = true := by unfold Shp.placed; rw [Bool.and_eq_true, decide_eq_true_eq]; exact ⟨by assumption, by omega⟩
               exact ⟨k+1,[0,1],⟨⟨hk,by rw[hr,hp,Bool.true_and]⟩,by omega⟩,rfl,⟨⟨rfl,rfl⟩,⟨rfl,rfl⟩,⟨rfl,rfl⟩,⟨rfl,subInt rfl (wrap_in (by omega) (by omega))⟩,tU⟩,⟨⟨_,rfl,kp⟩,⟨_,rfl,rfl⟩,tU⟩⟩)
            | (have hp : q.ss[k].placed = false := by
                 unfold Shp.placed
                 first
                   | (rw[Bool.and_eq_false_iff];exact .inl (by assumption))
                   | (rw[Bool.and_eq_false_iff];exact .inr (decide_eq_false (by omega)))
               exact ⟨bA_eq (by rw[hr,hp];rfl),_,rfl⟩)
            | trace_state
        · obtain rfl:k=q.ss.length:=by omega
          rw[List.drop_length] at hr
          rw[hr]
          conv=>whnf
          refine brP_of (noT hk) (fun _=>?_)
          conv=>whnf
          exact ⟨rfl,_,rfl⟩
def Sta.us(q:Sta):List Int:=q.ms.map (·.user)
def Sta.rids(q:Sta):List Int:=q.rs.map (·.id)
def Sta.sids(q:Sta):List Int:=q.ss.map (·.id)
def Sta.listed(q:Sta):Bool:=(match q.us with|[]=>false|x::_=>x==0)&&(risingB q.us&&!(q.ms.any fun m=>!m.enrolled)) &&
  (risingB q.rids&&risingB q.sids&&!(q.rids.any fun x=>!q.us.any fun y=>x==y)&&!(q.sids.any fun x=>!q.us.any fun y=>x==y))
theorem flisted{R:Res}{q:Sta}(h:q.Rd R)(h0:q.ms.length≤60000)(h1:q.rs.length≤60000)(h2:q.ss.length≤60000):CP [] 121 [.agg q.a] [.res R] (fun v H'=>v=bA q.listed∧∃G,H'=.res R::G):=by
  rcases q with ⟨ms,nt,rs,ss,tx,es,past,om,ot,orr,os,oe,cm,ct,cr,cs,ce⟩
  have gm:=h.ms
  have gr:=h.rs
  have gs:=h.ss
  simp only[] at gm gr gs h0 h1 h2
  refine fn_ok ev_ok rfl ?_
  rcases ms with _|⟨m0,ms⟩
  · repeat' ((conv=>whnf);first|with_reducible apply brP_of<;>intro _|(refine (tofM (l:=[]) rfl (by simp) gm).use [0] rfl rfl ⟨⟨_,rfl,kp⟩,tU⟩ ?_;rintro _ _ ⟨rfl,rfl⟩;refine ⟨[],?_⟩)|refine fn_ok ev_ok rfl ?_)
    all_goals (try conv=>whnf)
    exact ⟨rfl,_,rfl⟩
  · rcases rs with _|⟨r0,rs⟩<;>rcases ss with _|⟨s0,ss⟩
    · repeat' ((conv=>whnf);first|with_reducible apply brP_of<;>intro _|(refine (tofM (l:=m0::ms) rfl h0 gm).use [0] rfl rfl ⟨⟨_,rfl,kp⟩,tU⟩ ?_;rintro _ _ ⟨rfl,rfl⟩;refine ⟨[1],?_⟩)|refine IdxP.of (k:=0) rfl (by omega) ?_|refine RowP.one (iK m0.user) rfl ?_|(refine (frising (l:=(m0::ms).map (·.user)) (n:=ms.length) (by simp) (by simp at h0;omega)).use [2] rfl rfl ⟨⟨_,rfl,by simp[List.map_map];rfl⟩,tU⟩ ?_;rintro _ _ ⟨rfl,rfl⟩;refine ⟨[],?_⟩)|(refine (fanyM (l:=m0::ms) rfl (by omega) gm).use [0] rfl rfl ⟨⟨_,rfl,kp⟩,tU⟩ ?_;rintro _ _ ⟨rfl,rfl⟩;refine ⟨[],?_⟩)|(refine (tofR (l:=[]) rfl h1 gr).use [0] rfl rfl ⟨⟨_,rfl,kp⟩,tU⟩ ?_;rintro _ _ ⟨rfl,rfl⟩;refine ⟨[],?_⟩)|(refine (tofS (l:=[]) rfl h2 gs).use [0] rfl rfl ⟨⟨_,rfl,kp⟩,tU⟩ ?_;rintro _ _ ⟨rfl,rfl⟩;refine ⟨[],?_⟩)|(refine frising0.use [] rfl rfl trivial ?_;rintro _ _ rfl;refine ⟨[],?_⟩)|(refine (fstranger0 (p:=0) (H:=[.cells [.slice 1 0 (ms.length+1) (.grown 1)] 187,.row (((m0::ms).map fun m:Mem=>m.user).map iK) 3])).use [3,2] rfl rfl ⟨⟨_,rfl,rfl⟩,⟨_,rfl,rfl⟩,tU⟩ ?_;rintro _ _ ⟨rfl,rfl⟩;refine ⟨[],?_⟩))
      all_goals (try conv=>whnf)
      all_goals
        refine ⟨bA_eq ?_,_,rfl⟩
        clear h gm gr gs
        simp only[Sta.listed,Sta.us,Sta.rids,Sta.sids]
        generalize risingB (List.map (fun x=>x.user) (m0::ms))=a1 at *
        generalize ((m0::ms).any fun m=>!m.enrolled)=a2 at *
        simp_all [risingB]
    · repeat' ((conv=>whnf);first|with_reducible apply brP_of<;>intro _|(refine (tofM (l:=m0::ms) rfl h0 gm).use [0] rfl rfl ⟨⟨_,rfl,kp⟩,tU⟩ ?_;rintro _ _ ⟨rfl,rfl⟩;refine ⟨[1],?_⟩)|refine IdxP.of (k:=0) rfl (by omega) ?_|refine RowP.one (iK m0.user) rfl ?_|(refine (frising (l:=(m0::ms).map (·.user)) (n:=ms.length) (by simp) (by simp at h0;omega)).use [2] rfl rfl ⟨⟨_,rfl,by simp[List.map_map];rfl⟩,tU⟩ ?_;rintro _ _ ⟨rfl,rfl⟩;refine ⟨[],?_⟩)|(refine (fanyM (l:=m0::ms) rfl (by omega) gm).use [0] rfl rfl ⟨⟨_,rfl,kp⟩,tU⟩ ?_;rintro _ _ ⟨rfl,rfl⟩;refine ⟨[],?_⟩)|(refine (tofR (l:=[]) rfl h1 gr).use [0] rfl rfl ⟨⟨_,rfl,kp⟩,tU⟩ ?_;rintro _ _ ⟨rfl,rfl⟩;refine ⟨[],?_⟩)|(refine (tofS (l:=s0::ss) rfl h2 gs).use [0] rfl rfl ⟨⟨_,rfl,kp⟩,tU⟩ ?_;rintro _ _ ⟨rfl,rfl⟩;refine ⟨[1],?_⟩)|(refine (frising (l:=(s0::ss).map (·.id)) (n:=ss.length) (by simp) (by simp at h2;omega)).use [4] rfl rfl ⟨⟨_,rfl,by simp[List.map_map];rfl⟩,tU⟩ ?_;rintro _ _ ⟨rfl,rfl⟩;refine ⟨[],?_⟩)|(refine frising0.use [] rfl rfl trivial ?_;rintro _ _ rfl;refine ⟨[],?_⟩)|(refine (fstranger (l:=(s0::ss).map (·.id)) (n:=ss.length) (us:=(m0::ms).map (·.user)) (m:=ms.length) (by simp) (by simp at h1 h2;omega) (by simp) (by simp at h0;omega)).use [4,3,2] rfl rfl ⟨⟨_,rfl,by simp[List.map_map];rfl⟩,⟨_,rfl,rfl⟩,⟨_,rfl,by simp[List.map_map];rfl⟩,tU⟩ ?_;rintro _ _ ⟨rfl,G,rfl⟩;refine ⟨[],?_⟩)|(refine (fstranger0 (p:=0) (H:=[.cells [.slice 1 0 (ms.length+1) (.grown 1)] 187,.row (((m0::ms).map fun m:Mem=>m.user).map iK) 3])).use [3,2] rfl rfl ⟨⟨_,rfl,rfl⟩,⟨_,rfl,rfl⟩,tU⟩ ?_;rintro _ _ ⟨rfl,rfl⟩;refine ⟨[],?_⟩))
      all_goals (try conv=>whnf)
      all_goals
        refine ⟨bA_eq ?_,_,rfl⟩
        clear h gm gr gs
        simp only[Sta.listed,Sta.us,Sta.rids,Sta.sids]
        generalize risingB (List.map (fun x=>x.user) (m0::ms))=a1 at *
        generalize ((m0::ms).any fun m=>!m.enrolled)=a2 at *
        generalize risingB (List.map (fun x=>x.id) (s0::ss))=a5 at *
        generalize ((List.map (fun x=>x.id) (s0::ss)).any fun x=>!(List.map (fun x=>x.user) (m0::ms)).any fun y=>x==y)=a6 at *
        simp_all [risingB]
    · repeat' ((conv=>whnf);first|with_reducible apply brP_of<;>intro _|(refine (tofM (l:=m0::ms) rfl h0 gm).use [0] rfl rfl ⟨⟨_,rfl,kp⟩,tU⟩ ?_;rintro _ _ ⟨rfl,rfl⟩;refine ⟨[1],?_⟩)|refine IdxP.of (k:=0) rfl (by omega) ?_|refine RowP.one (iK m0.user) rfl ?_|(refine (frising (l:=(m0::ms).map (·.user)) (n:=ms.length) (by simp) (by simp at h0;omega)).use [2] rfl rfl ⟨⟨_,rfl,by simp[List.map_map];rfl⟩,tU⟩ ?_;rintro _ _ ⟨rfl,rfl⟩;refine ⟨[],?_⟩)|(refine (fanyM (l:=m0::ms) rfl (by omega) gm).use [0] rfl rfl ⟨⟨_,rfl,kp⟩,tU⟩ ?_;rintro _ _ ⟨rfl,rfl⟩;refine ⟨[],?_⟩)|(refine (tofR (l:=r0::rs) rfl h1 gr).use [0] rfl rfl ⟨⟨_,rfl,kp⟩,tU⟩ ?_;rintro _ _ ⟨rfl,rfl⟩;refine ⟨[1],?_⟩)|(refine (tofS (l:=[]) rfl h2 gs).use [0] rfl rfl ⟨⟨_,rfl,kp⟩,tU⟩ ?_;rintro _ _ ⟨rfl,rfl⟩;refine ⟨[],?_⟩)|(refine (frising (l:=(r0::rs).map (·.id)) (n:=rs.length) (by simp) (by simp at h1;omega)).use [4] rfl rfl ⟨⟨_,rfl,by simp[List.map_map];rfl⟩,tU⟩ ?_;rintro _ _ ⟨rfl,rfl⟩;refine ⟨[],?_⟩)|(refine frising0.use [] rfl rfl trivial ?_;rintro _ _ rfl;refine ⟨[],?_⟩)|(refine (fstranger (l:=(r0::rs).map (·.id)) (n:=rs.length) (us:=(m0::ms).map (·.user)) (m:=ms.length) (by simp) (by simp at h1 h2;omega) (by simp) (by simp at h0;omega)).use [4,3,2] rfl rfl ⟨⟨_,rfl,by simp[List.map_map];rfl⟩,⟨_,rfl,rfl⟩,⟨_,rfl,by simp[List.map_map];rfl⟩,tU⟩ ?_;rintro _ _ ⟨rfl,G,rfl⟩;refine ⟨[],?_⟩)|(refine (fstranger0 (p:=0) (H:=[.cells [.slice 1 0 (ms.length+1) (.grown 1)] 187,.row (((m0::ms).map fun m:Mem=>m.user).map iK) 3])).use [3,2] rfl rfl ⟨⟨_,rfl,rfl⟩,⟨_,rfl,rfl⟩,tU⟩ ?_;rintro _ _ ⟨rfl,rfl⟩;refine ⟨[],?_⟩))
      all_goals (try conv=>whnf)
      all_goals
        refine ⟨bA_eq ?_,_,rfl⟩
        clear h gm gr gs
        simp only[Sta.listed,Sta.us,Sta.rids,Sta.sids]
        generalize risingB (List.map (fun x=>x.user) (m0::ms))=a1 at *
        generalize ((m0::ms).any fun m=>!m.enrolled)=a2 at *
        generalize risingB (List.map (fun x=>x.id) (r0::rs))=a3 at *
        generalize ((List.map (fun x=>x.id) (r0::rs)).any fun x=>!(List.map (fun x=>x.user) (m0::ms)).any fun y=>x==y)=a4 at *
        simp_all [risingB]
    · repeat' ((conv=>whnf);first|with_reducible apply brP_of<;>intro _|(refine (tofM (l:=m0::ms) rfl h0 gm).use [0] rfl rfl ⟨⟨_,rfl,kp⟩,tU⟩ ?_;rintro _ _ ⟨rfl,rfl⟩;refine ⟨[1],?_⟩)|refine IdxP.of (k:=0) rfl (by omega) ?_|refine RowP.one (iK m0.user) rfl ?_|(refine (frising (l:=(m0::ms).map (·.user)) (n:=ms.length) (by simp) (by simp at h0;omega)).use [2] rfl rfl ⟨⟨_,rfl,by simp[List.map_map];rfl⟩,tU⟩ ?_;rintro _ _ ⟨rfl,rfl⟩;refine ⟨[],?_⟩)|(refine (fanyM (l:=m0::ms) rfl (by omega) gm).use [0] rfl rfl ⟨⟨_,rfl,kp⟩,tU⟩ ?_;rintro _ _ ⟨rfl,rfl⟩;refine ⟨[],?_⟩)|(refine (tofR (l:=r0::rs) rfl h1 gr).use [0] rfl rfl ⟨⟨_,rfl,kp⟩,tU⟩ ?_;rintro _ _ ⟨rfl,rfl⟩;refine ⟨[1],?_⟩)|(refine (tofS (l:=s0::ss) rfl h2 gs).use [0] rfl rfl ⟨⟨_,rfl,kp⟩,tU⟩ ?_;rintro _ _ ⟨rfl,rfl⟩;refine ⟨[1],?_⟩)|(refine (frising (l:=(r0::rs).map (·.id)) (n:=rs.length) (by simp) (by simp at h1;omega)).use [4] rfl rfl ⟨⟨_,rfl,by simp[List.map_map];rfl⟩,tU⟩ ?_;rintro _ _ ⟨rfl,rfl⟩;refine ⟨[],?_⟩)|(refine (frising (l:=(s0::ss).map (·.id)) (n:=ss.length) (by simp) (by simp at h2;omega)).use [5] rfl rfl ⟨⟨_,rfl,by simp[List.map_map];rfl⟩,tU⟩ ?_;rintro _ _ ⟨rfl,rfl⟩;refine ⟨[],?_⟩)|(refine (fstranger (l:=(r0::rs).map (·.id)) (n:=rs.length) (us:=(m0::ms).map (·.user)) (m:=ms.length) (by simp) (by simp at h1 h2;omega) (by simp) (by simp at h0;omega)).use [4,3,2] rfl rfl ⟨⟨_,rfl,by simp[List.map_map];rfl⟩,⟨_,rfl,rfl⟩,⟨_,rfl,by simp[List.map_map];rfl⟩,tU⟩ ?_;rintro _ _ ⟨rfl,G,rfl⟩;refine ⟨[],?_⟩)|(refine (fstranger (l:=(s0::ss).map (·.id)) (n:=ss.length) (us:=(m0::ms).map (·.user)) (m:=ms.length) (by simp) (by simp at h1 h2;omega) (by simp) (by simp at h0;omega)).use [5,3,2] rfl rfl ⟨⟨_,rfl,by simp[List.map_map];rfl⟩,⟨_,rfl,rfl⟩,⟨_,rfl,by simp[List.map_map];rfl⟩,tU⟩ ?_;rintro _ _ ⟨rfl,G,rfl⟩;refine ⟨[],?_⟩))
      all_goals (try conv=>whnf)
      all_goals
        refine ⟨bA_eq ?_,_,rfl⟩
        clear h gm gr gs
        simp only[Sta.listed,Sta.us,Sta.rids,Sta.sids]
        generalize risingB (List.map (fun x=>x.user) (m0::ms))=a1 at *
        generalize ((m0::ms).any fun m=>!m.enrolled)=a2 at *
        generalize risingB (List.map (fun x=>x.id) (r0::rs))=a3 at *
        generalize ((List.map (fun x=>x.id) (r0::rs)).any fun x=>!(List.map (fun x=>x.user) (m0::ms)).any fun y=>x==y)=a4 at *
        generalize risingB (List.map (fun x=>x.id) (s0::ss))=a5 at *
        generalize ((List.map (fun x=>x.id) (s0::ss)).any fun x=>!(List.map (fun x=>x.user) (m0::ms)).any fun y=>x==y)=a6 at *
        simp_all [risingB]
def Sta.sound(q:Sta):Bool:=decide (q.nt=q.ms.length∧0≤q.past∧q.past≤4611686018427387903)&&(q.listed&&(q.rs.all Rcd.placed&&q.ss.all Shp.placed)&&!(q.es.any fun m=>!m.happened))
theorem fsound{R:Res}{q:Sta}(h:q.Rd R)(h0:q.ms.length≤60000)(h1:q.rs.length≤60000)(h2:q.ss.length≤60000)(h3:q.es.length≤4611686018427387904):CP [] 48 [.agg q.a] [.res R] (fun v H'=>v=bA q.sound∧∃G,H'=.res R::G):=by
  refine fn_ok ev_ok rfl ?_
  repeat' ((conv=>whnf);first|with_reducible apply brP_of<;>intro _|(refine (flisted h h0 h1 h2).use [0] rfl rfl ⟨⟨_,rfl,kp⟩,tU⟩ ?_;rintro _ _ ⟨rfl,G,rfl⟩;refine ⟨[],?_⟩)|(refine (fplaced h h1 h2).use [0] rfl rfl ⟨⟨_,rfl,kp⟩,tU⟩ ?_;rintro _ _ ⟨rfl,G,rfl⟩;refine ⟨[],?_⟩)|(refine (fanyE rfl h3 h.es).use [0] rfl rfl ⟨⟨_,rfl,kp⟩,tU⟩ ?_;rintro _ _ ⟨rfl,rfl⟩;refine ⟨[],?_⟩))
  all_goals (try conv=>whnf)
  all_goals
    refine ⟨bA_eq ?_,_,rfl⟩
    clear h
    unfold Sta.sound
    generalize q.listed=a1 at *
    generalize (q.rs.all Rcd.placed&&q.ss.all Shp.placed)=a2 at *
    generalize (q.es.any fun m=>!m.happened)=a3 at *
    simp_all
  all_goals omega
end Go.Proofs.YtmbdghclhpboaaaGreat
