/- Part of the proof: Rdr4 Rdr5 SyP. Conditions: as each states. -/
import Derived.Test.YtmbdghclhpboaaaGreatPb37
set_option linter.all false
set_option maxRecDepth 100000
namespace Go.Proofs.YtmbdghclhpboaaaGreat
open Ev
theorem Rst.num_ok{k:Nat}{s s':Rst}{x:Nat}(h:s.num k=(x,s'))(hb:s'.bad=false):s.bad=false∧s'.l=s.l.drop k∧k≤s.l.length∧x=beNat (s.l.take k):=by
 unfold Rst.num at h
 split at h
 ·simp only[Prod.mk.injEq] at h
  rw[←h.2] at hb
  cases hb
 ·unfold Rst.long Rst.take at h
  simp only[Prod.mk.injEq] at h
  obtain ⟨h1,h2⟩:=h
  split at h1
  ·rw[if_pos (by assumption)] at h2
   subst h2
   exact ⟨hb,rfl,by assumption,h1.symm⟩
  ·rw[if_neg (by assumption)] at h2
   subst h2
   cases hb
theorem Rst.long_ok{k:Nat}{s s':Rst}{x:Nat}(h:s.long k=(x,s'))(hb:s'.bad=false):s.bad=false∧s'.l=s.l.drop k∧k≤s.l.length∧x=beNat (s.l.take k):=by
 unfold Rst.long Rst.take at h
 simp only[Prod.mk.injEq] at h
 obtain ⟨h1,h2⟩:=h
 split at h1
 ·rw[if_pos (by assumption)] at h2
  subst h2
  exact ⟨hb,rfl,by assumption,h1.symm⟩
 ·rw[if_neg (by assumption)] at h2
  subst h2
  cases hb
theorem num_dn{k:Nat}{s:Rst}(hb:(s.num k).2.bad=false):s.bad=false∧(s.num k).2.l.length+k=s.l.length:=by
 obtain ⟨h1,h2,h3,_⟩:=Rst.num_ok (x:=(s.num k).1) (s':=(s.num k).2) rfl hb
 rw[h2,List.length_drop]
 exact ⟨h1,by omega⟩
theorem long_dn{k:Nat}{s:Rst}(hb:(s.long k).2.bad=false):s.bad=false∧(s.long k).2.l.length+k=s.l.length:=by
 obtain ⟨h1,h2,h3,_⟩:=Rst.long_ok (x:=(s.long k).1) (s':=(s.long k).2) rfl hb
 rw[h2,List.length_drop]
 exact ⟨h1,by omega⟩
theorem evn_dn{s:Rst}(hb:s.evn.2.bad=false):s.bad=false∧s.evn.2.l.length+8=s.l.length:=by
 unfold Rst.evn at hb ⊢
 simp only[] at hb ⊢
 obtain ⟨b4,h4⟩:=num_dn hb
 obtain ⟨b3,h3⟩:=num_dn b4
 obtain ⟨b2,h2⟩:=num_dn b3
 obtain ⟨b1,h1⟩:=num_dn b2
 exact ⟨b1,by omega⟩
theorem rcd_dn{s:Rst}(hb:s.rcd.2.bad=false):s.bad=false∧s.rcd.2.l.length+7=s.l.length:=by
 unfold Rst.rcd at hb ⊢
 simp only[] at hb ⊢
 obtain ⟨b4,h4⟩:=num_dn hb
 obtain ⟨b3,h3⟩:=num_dn b4
 obtain ⟨b2,h2⟩:=num_dn b3
 obtain ⟨b1,h1⟩:=num_dn b2
 exact ⟨b1,by omega⟩
theorem shp_dn{s:Rst}(hb:s.shp.2.bad=false):s.bad=false∧s.shp.2.l.length+11=s.l.length:=by
 unfold Rst.shp at hb ⊢
 simp only[] at hb ⊢
 obtain ⟨b6,h6⟩:=num_dn hb
 obtain ⟨b5,h5⟩:=num_dn b6
 obtain ⟨b4,h4⟩:=num_dn b5
 obtain ⟨b3,h3⟩:=num_dn b4
 obtain ⟨b2,h2⟩:=num_dn b3
 obtain ⟨b1,h1⟩:=num_dn b2
 exact ⟨b1,by omega⟩
theorem tik_dn{s:Rst}(hb:s.tik.2.bad=false):s.bad=false∧s.tik.2.l.length+31=s.l.length:=by
 unfold Rst.tik at hb ⊢
 simp only[] at hb ⊢
 obtain ⟨b10,h10⟩:=num_dn hb
 obtain ⟨b9,h9⟩:=num_dn b10
 obtain ⟨b8,h8⟩:=num_dn b9
 obtain ⟨b7,h7⟩:=num_dn b8
 obtain ⟨b6,h6⟩:=num_dn b7
 simp only[Bool.or_eq_false_iff] at b6
 obtain ⟨b5,h5⟩:=num_dn b6.1
 obtain ⟨b4,h4⟩:=num_dn b5
 obtain ⟨b3,h3⟩:=num_dn b4
 obtain ⟨b2,h2⟩:=long_dn b3
 obtain ⟨b1,h1⟩:=long_dn b2
 simp only[] at h6
 exact ⟨b1,by omega⟩
def someL{α:Type}(one:Rst→α×Rst):Nat→Rst→List α→List α×Rst
 | 0,s,acc=>(acc,s)
 | n+1,s,acc=>if (one s).2.bad then ([],(one s).2) else someL one n (one s).2 (acc++[(one s).1])
theorem own_split{α:Type}{enc:α→List Value}{k:Nat}{e:TypeId}{v:Value}{l:List α}(w:World)(S:Nat→Prop)(h:(OwnR enc k e v l).at_ w S):stars [OwnR enc k e v l,resNil] w S:=
 ⟨S,fun _=>False,h,⟨fun _=>False,fun _=>False,fun _ h=>h,fun _ h=>h,fun _ h _=>h,fun b=>by simp⟩,fun _ _ h=>h,fun b=>by simp⟩
theorem own_join{α:Type}{enc:α→List Value}{k:Nat}{e:TypeId}{v:Value}{l:List α}(w:World)(S:Nat→Prop)(h:stars [OwnR enc k e v l,resNil] w S):(OwnR enc k e v l).at_ w S:=by
 obtain ⟨S1,S2,h1,⟨T1,T2,k1,k2,_,hS2⟩,_,hS⟩:=h
 refine ⟨h1.1,fun b=>?_⟩
 rw[hS b,hS2 b]
 have e1:=h1.2 b
 have e2:=k1 b
 have e3:=k2 b
 exact ⟨fun h=>h.elim e1.1 (fun h=>h.elim (fun h=>absurd h e2) (fun h=>absurd h e3)),fun h=>.inl (e1.2 h)⟩
theorem own_zero{α:Type}{enc:α→List Value}{k:Nat}{e:TypeId}(w:World):(OwnR enc k e nilV ([]:List α)).at_ w fun _=>False:=⟨Own.nil,fun b=>by simp[nilV,Value.ownBlock]⟩
theorem Ev.Ent.zero{R R':Res}{L:List Res}(h:∀w,R'.at_ w fun _=>False):Ent (R::L) (R'::L):=fun w T ⟨_,S2,_,h2,_,hT⟩=>⟨S2,fun b hb=>(hT b).2 (.inr hb),fun _=>False,S2,h w,h2,fun _ h=>h.elim,fun b=>by simp⟩
def shL(s:Shp):List Value:=[iK s.id,iK s.x0,iK s.y0,iK s.x1,iK s.y1,iK s.label]
theorem shL_len(s:Shp):(shL s).length=6:=rfl
theorem app_sh:AppT ev 25 78 6:=⟨⟨_,rfl,rfl⟩,_,_,rfl,rfl,rfl,rfl,by decide⟩
theorem app_at:AppT ev 52 96 10:=⟨⟨_,rfl,rfl⟩,_,_,rfl,rfl,rfl,rfl,by decide⟩
theorem sh_one:∀a:Shp,∀u∈shL a,u.oneCell'=true:=fun a u hu=>by
 simp only[shL,List.mem_cons,List.not_mem_nil,or_false] at hu
 rcases hu with rfl|rfl|rfl|rfl|rfl|rfl<;>rfl
theorem rc_one:∀a:Rcd,∀u∈rcL a,u.oneCell'=true:=fun a u hu=>by
 simp only[rcL,List.mem_cons,List.not_mem_nil,or_false] at hu
 rcases hu with rfl|rfl|rfl|rfl<;>rfl
theorem ev_one:∀a:Evn,∀u∈evL a,u.oneCell'=true:=fun a u hu=>by
 simp only[evL,List.mem_cons,List.not_mem_nil,or_false] at hu
 rcases hu with rfl|rfl|rfl|rfl<;>rfl
theorem tik_one:∀a:Tik,∀u∈tC a,u.oneCell'=true:=fun a u hu=>by
 simp only[tC,List.mem_cons,List.not_mem_nil,or_false] at hu
 rcases hu with rfl|rfl|rfl|rfl|rfl|rfl|rfl|rfl|rfl|rfl<;>rfl
structure SmS(α:Type) where
 i:Nat
 v:Value
 xs:List α
 s:Rst
theorem rsomeT0{R:Res}{s:Rst}{n:Nat}(h:s.Ok R)(hl:s.l.length≤1000000000)(hn:n≤4611686018427387903) :
  CP [] 184 [.ptr 0 0,iA n,.func (.func 185) [.ptr 0 0] []] [rdG s,.res R,.res (OwnR tC 10 96 nilV [])] (fun v H'=>∃xs s' v' ys G,someL Rst.tik n s []=(xs,s')∧s'.Ok R∧((v=.lit v'∧ys=xs)∨(v=.lit nilV∧xs=[]))∧SlF v' ys∧H'=rdG s'::.res R::.res (OwnR tC 10 96 v' ys)::G):=by
 refine fn_ok ev_ok rfl ?_
 conv=>whnf
 refine loopP ev_ok rfl (fun q:SmS Tik=>[(0,.ptr 0 0),(2,.func (.func 185) [.ptr 0 0] []),(9,iA n),(10,iA (q.i:Nat)),(7,.lit q.v)]) (fun q=>[rdG q.s,.res R,.res (OwnR tC 10 96 q.v q.xs)])
  (fun q=>q.i≤n∧q.s.Ok R∧SlF q.v q.xs∧someL Rst.tik n s []=someL Rst.tik (n - q.i) q.s q.xs∧q.xs.length+q.s.l.length≤1000000000) (fun q=>n - q.i) ⟨0,nilV,[],s⟩ ⟨Nat.zero_le _,h,.inl ⟨rfl,rfl⟩,rfl,by simpa using hl⟩ [0,1,2] ?_ ?_
 ·exact ⟨rfl,⟨⟨rfl,rfl⟩,⟨rfl,rfl⟩,⟨rfl,rfl⟩,⟨rfl,rfl⟩,⟨rfl,rfl⟩,tU⟩,⟨⟨_,rfl,rfl⟩,⟨_,rfl,kp⟩,⟨_,rfl,kp⟩,tU⟩⟩
 ·rintro ⟨i,v,xs,s1⟩ ⟨hi0,hs,hv,he,hlen⟩
  simp only[] at hi0 hs hv he hlen
  by_cases hi:i<n
  ·have en:n - i=(n - (i+1))+1:=by omega
   rw[en,someL] at he
   have hgo:∀(b:Bool) (x:Tik) (s':Rst),s1.tik=(x,s')→s'.bad=b→(b=true→someL Rst.tik n s []=([],s'))∧(b=false→someL Rst.tik n s []=someL Rst.tik (n - (i+1)) s' (xs++[x])∧(xs++[x]).length+s'.l.length≤1000000000):=fun b x s' e1 e2=>by
    rw[e1] at he
    simp only[] at he
    refine ⟨fun hb=>?_,fun hb=>?_⟩
    ·rw[he,e2,hb];rfl
    ·rw[e2,hb] at he
     refine ⟨he,?_⟩
     have:=(tik_dn (s:=s1) (by rw[e1];rw[e2,hb])).2
     rw[e1] at this
     simp only[] at this
     rw[List.length_append,List.length_singleton]
     omega
   rcases hv with ⟨rfl,rfl⟩|⟨A,c,rfl⟩
   ·conv=>whnf
    refine brP_of (fun _=>?_) (noF hi)
    have hxl:([]:List Tik).length=0:=rfl
    repeat' ((conv=>whnf);first|with_reducible apply brP_of<;>intro _|(refine (rticket hs).use [0,1] rfl rfl ⟨⟨_,rfl,rfl⟩,⟨_,rfl,kp⟩,tU⟩ ?_;rintro _ _ ⟨x,s',G,e1,hs',rfl,rfl⟩;refine ⟨[],?_⟩)|(refine AppP.om (OpM.appL ev_ok app_at tC_len (by decide) tik_one (i:=2) (y:=x) (l:=([]:List Tik)) (v:=nilV) (R1:=resNil) (R':=fun v'=>OwnR tC 10 96 v' (([]:List Tik)++[x])) rfl rfl rfl rfl rfl rfl rfl own_split (fun v'=>own_join) (by omega) ?_);intro A2 m2))
    all_goals (try conv=>whnf)
    ·rename_i hb
     exact ⟨[],s',nilV,[],_,(hgo _ x s' e1 hb).1 rfl,hs',.inr ⟨rfl,rfl⟩,.inl ⟨rfl,rfl⟩,rfl⟩
    ·rename_i hb
     obtain ⟨k1,k2⟩:=(hgo _ x s' e1 hb).2 rfl
     exact ⟨⟨i+1,.slice (some A2) (([]:List Tik).length+1) m2,[]++[x],s'⟩,[0,1,2],⟨⟨hi,hs',.inr ⟨A2,m2,by simp⟩,k1,k2⟩,by show n - (i+1)<n - i;omega⟩,rfl,⟨⟨rfl,rfl⟩,⟨rfl,rfl⟩,⟨rfl,rfl⟩,⟨rfl,subInt rfl (wrap_in (by first|omega|(dsimp only;omega)) (by first|omega|(dsimp only;omega)))⟩,⟨rfl,rfl⟩,tU⟩,⟨⟨_,rfl,rfl⟩,⟨_,rfl,kp⟩,⟨_,rfl,kp⟩,tU⟩⟩
   ·conv=>whnf
    refine brP_of (fun _=>?_) (noF hi)
    repeat' ((conv=>whnf);first|with_reducible apply brP_of<;>intro _|(refine (rticket hs).use [0,1] rfl rfl ⟨⟨_,rfl,rfl⟩,⟨_,rfl,kp⟩,tU⟩ ?_;rintro _ _ ⟨x,s',G,e1,hs',rfl,rfl⟩;refine ⟨[],?_⟩)|(refine OpP.om (OpM.appL ev_ok app_at tC_len (by decide) tik_one (i:=2) (y:=x) (l:=xs) (v:=(.slice (some A) xs.length c)) (R1:=resNil) (R':=fun v'=>OwnR tC 10 96 v' (xs++[x])) rfl rfl rfl rfl rfl rfl rfl own_split (fun v'=>own_join) (by omega) ?_);intro A2 m2))
    all_goals (try conv=>whnf)
    ·rename_i hb
     exact ⟨[],s',.slice (some A) xs.length c,xs,_,(hgo _ x s' e1 hb).1 rfl,hs',.inr ⟨rfl,rfl⟩,.inr ⟨A,c,rfl⟩,rfl⟩
    ·rename_i hb
     obtain ⟨k1,k2⟩:=(hgo _ x s' e1 hb).2 rfl
     exact ⟨⟨i+1,.slice (some A2) (xs.length+1) m2,xs++[x],s'⟩,[0,1,2],⟨⟨hi,hs',.inr ⟨A2,m2,by simp⟩,k1,k2⟩,by show n - (i+1)<n - i;omega⟩,rfl,⟨⟨rfl,rfl⟩,⟨rfl,rfl⟩,⟨rfl,rfl⟩,⟨rfl,subInt rfl (wrap_in (by first|omega|(dsimp only;omega)) (by first|omega|(dsimp only;omega)))⟩,⟨rfl,rfl⟩,tU⟩,⟨⟨_,rfl,rfl⟩,⟨_,rfl,kp⟩,⟨_,rfl,kp⟩,tU⟩⟩
  ·obtain rfl:i=n:=by omega
   rw[Nat.sub_self,someL] at he
   rcases hv with ⟨rfl,rfl⟩|⟨A,c,rfl⟩
   all_goals
    conv=>whnf
    refine brP_of (noT hi) (fun _=>?_)
    repeat' ((conv=>whnf);with_reducible apply brP_of<;>intro _)
    all_goals (try conv=>whnf)
   ·exact ⟨[],s1,nilV,[],[],he,hs,.inl ⟨rfl,rfl⟩,.inl ⟨rfl,rfl⟩,rfl⟩
   ·exact ⟨xs,s1,.slice (some A) xs.length c,xs,[],he,hs,.inl ⟨rfl,rfl⟩,.inr ⟨A,c,rfl⟩,rfl⟩
theorem rsomeT{R:Res}{s:Rst}{n:Nat}(h:s.Ok R)(hl:s.l.length≤1000000000)(hn:n≤4611686018427387903) :
  CP [] 184 [.ptr 0 0,iA n,.func (.func 185) [.ptr 0 0] []] [rdG s,.res R] (fun v H'=>∃xs s' v' G,someL Rst.tik n s []=(xs,s')∧s'.Ok R∧SlF v' xs∧v=.lit v'∧H'=rdG s'::.res R::.res (OwnR tC 10 96 v' xs)::G):=by
 refine CallS.post (CallS.pre (Pre.more (R:=OwnR tC 10 96 nilV []) rfl (Ent.snocE own_zero _)) (rsomeT0 h hl hn)) ?_
 rintro _ _ ⟨xs,s',v',ys,G,e1,hs',hv,hf,rfl⟩
 rcases hv with ⟨rfl,rfl⟩|⟨rfl,rfl⟩
 ·exact ⟨_,Pre.same rfl (.refl _),ys,s',v',G,e1,hs',hf,rfl,rfl⟩
 ·exact ⟨rdG s'::.res R::.res (OwnR tC 10 96 nilV [])::G,Pre.same rfl (.cons _ (.cons _ (.zero own_zero))),[],s',nilV,G,e1,hs',.inl ⟨rfl,rfl⟩,rfl,rfl⟩
theorem rsomeR0{R:Res}{s:Rst}{n:Nat}(h:s.Ok R)(hl:s.l.length≤1000000000)(hn:n≤4611686018427387903) :
  CP [] 105 [.ptr 0 0,iA n,.func (.func 106) [.ptr 0 0] []] [rdG s,.res R,.res (OwnR rcL 4 72 nilV [])] (fun v H'=>∃xs s' v' ys G,someL Rst.rcd n s []=(xs,s')∧s'.Ok R∧((v=.lit v'∧ys=xs)∨(v=.lit nilV∧xs=[]))∧SlF v' ys∧H'=rdG s'::.res R::.res (OwnR rcL 4 72 v' ys)::G):=by
 refine fn_ok ev_ok rfl ?_
 conv=>whnf
 refine loopP ev_ok rfl (fun q:SmS Rcd=>[(0,.ptr 0 0),(2,.func (.func 106) [.ptr 0 0] []),(9,iA n),(10,iA (q.i:Nat)),(7,.lit q.v)]) (fun q=>[rdG q.s,.res R,.res (OwnR rcL 4 72 q.v q.xs)])
  (fun q=>q.i≤n∧q.s.Ok R∧SlF q.v q.xs∧someL Rst.rcd n s []=someL Rst.rcd (n - q.i) q.s q.xs∧q.xs.length+q.s.l.length≤1000000000) (fun q=>n - q.i) ⟨0,nilV,[],s⟩ ⟨Nat.zero_le _,h,.inl ⟨rfl,rfl⟩,rfl,by simpa using hl⟩ [0,1,2] ?_ ?_
 ·exact ⟨rfl,⟨⟨rfl,rfl⟩,⟨rfl,rfl⟩,⟨rfl,rfl⟩,⟨rfl,rfl⟩,⟨rfl,rfl⟩,tU⟩,⟨⟨_,rfl,rfl⟩,⟨_,rfl,kp⟩,⟨_,rfl,kp⟩,tU⟩⟩
 ·rintro ⟨i,v,xs,s1⟩ ⟨hi0,hs,hv,he,hlen⟩
  simp only[] at hi0 hs hv he hlen
  by_cases hi:i<n
  ·have en:n - i=(n - (i+1))+1:=by omega
   rw[en,someL] at he
   have hgo:∀(b:Bool) (x:Rcd) (s':Rst),s1.rcd=(x,s')→s'.bad=b→(b=true→someL Rst.rcd n s []=([],s'))∧(b=false→someL Rst.rcd n s []=someL Rst.rcd (n - (i+1)) s' (xs++[x])∧(xs++[x]).length+s'.l.length≤1000000000):=fun b x s' e1 e2=>by
    rw[e1] at he
    simp only[] at he
    refine ⟨fun hb=>?_,fun hb=>?_⟩
    ·rw[he,e2,hb];rfl
    ·rw[e2,hb] at he
     refine ⟨he,?_⟩
     have:=(rcd_dn (s:=s1) (by rw[e1];rw[e2,hb])).2
     rw[e1] at this
     simp only[] at this
     rw[List.length_append,List.length_singleton]
     omega
   rcases hv with ⟨rfl,rfl⟩|⟨A,c,rfl⟩
   ·conv=>whnf
    refine brP_of (fun _=>?_) (noF hi)
    have hxl:([]:List Rcd).length=0:=rfl
    repeat' ((conv=>whnf);first|with_reducible apply brP_of<;>intro _|(refine (rrecord hs).use [0,1] rfl rfl ⟨⟨_,rfl,rfl⟩,⟨_,rfl,kp⟩,tU⟩ ?_;rintro _ _ ⟨x,s',G,e1,hs',rfl,rfl⟩;refine ⟨[],?_⟩)|(refine AppP.om (OpM.appL ev_ok app_rc rcL_len (by decide) rc_one (i:=2) (y:=x) (l:=([]:List Rcd)) (v:=nilV) (R1:=resNil) (R':=fun v'=>OwnR rcL 4 72 v' (([]:List Rcd)++[x])) rfl rfl rfl rfl rfl rfl rfl own_split (fun v'=>own_join) (by omega) ?_);intro A2 m2))
    all_goals (try conv=>whnf)
    ·rename_i hb
     exact ⟨[],s',nilV,[],_,(hgo _ x s' e1 hb).1 rfl,hs',.inr ⟨rfl,rfl⟩,.inl ⟨rfl,rfl⟩,rfl⟩
    ·rename_i hb
     obtain ⟨k1,k2⟩:=(hgo _ x s' e1 hb).2 rfl
     exact ⟨⟨i+1,.slice (some A2) (([]:List Rcd).length+1) m2,[]++[x],s'⟩,[0,1,2],⟨⟨hi,hs',.inr ⟨A2,m2,by simp⟩,k1,k2⟩,by show n - (i+1)<n - i;omega⟩,rfl,⟨⟨rfl,rfl⟩,⟨rfl,rfl⟩,⟨rfl,rfl⟩,⟨rfl,subInt rfl (wrap_in (by first|omega|(dsimp only;omega)) (by first|omega|(dsimp only;omega)))⟩,⟨rfl,rfl⟩,tU⟩,⟨⟨_,rfl,rfl⟩,⟨_,rfl,kp⟩,⟨_,rfl,kp⟩,tU⟩⟩
   ·conv=>whnf
    refine brP_of (fun _=>?_) (noF hi)
    repeat' ((conv=>whnf);first|with_reducible apply brP_of<;>intro _|(refine (rrecord hs).use [0,1] rfl rfl ⟨⟨_,rfl,rfl⟩,⟨_,rfl,kp⟩,tU⟩ ?_;rintro _ _ ⟨x,s',G,e1,hs',rfl,rfl⟩;refine ⟨[],?_⟩)|(refine OpP.om (OpM.appL ev_ok app_rc rcL_len (by decide) rc_one (i:=2) (y:=x) (l:=xs) (v:=(.slice (some A) xs.length c)) (R1:=resNil) (R':=fun v'=>OwnR rcL 4 72 v' (xs++[x])) rfl rfl rfl rfl rfl rfl rfl own_split (fun v'=>own_join) (by omega) ?_);intro A2 m2))
    all_goals (try conv=>whnf)
    ·rename_i hb
     exact ⟨[],s',.slice (some A) xs.length c,xs,_,(hgo _ x s' e1 hb).1 rfl,hs',.inr ⟨rfl,rfl⟩,.inr ⟨A,c,rfl⟩,rfl⟩
    ·rename_i hb
     obtain ⟨k1,k2⟩:=(hgo _ x s' e1 hb).2 rfl
     exact ⟨⟨i+1,.slice (some A2) (xs.length+1) m2,xs++[x],s'⟩,[0,1,2],⟨⟨hi,hs',.inr ⟨A2,m2,by simp⟩,k1,k2⟩,by show n - (i+1)<n - i;omega⟩,rfl,⟨⟨rfl,rfl⟩,⟨rfl,rfl⟩,⟨rfl,rfl⟩,⟨rfl,subInt rfl (wrap_in (by first|omega|(dsimp only;omega)) (by first|omega|(dsimp only;omega)))⟩,⟨rfl,rfl⟩,tU⟩,⟨⟨_,rfl,rfl⟩,⟨_,rfl,kp⟩,⟨_,rfl,kp⟩,tU⟩⟩
  ·obtain rfl:i=n:=by omega
   rw[Nat.sub_self,someL] at he
   rcases hv with ⟨rfl,rfl⟩|⟨A,c,rfl⟩
   all_goals
    conv=>whnf
    refine brP_of (noT hi) (fun _=>?_)
    repeat' ((conv=>whnf);with_reducible apply brP_of<;>intro _)
    all_goals (try conv=>whnf)
   ·exact ⟨[],s1,nilV,[],[],he,hs,.inl ⟨rfl,rfl⟩,.inl ⟨rfl,rfl⟩,rfl⟩
   ·exact ⟨xs,s1,.slice (some A) xs.length c,xs,[],he,hs,.inl ⟨rfl,rfl⟩,.inr ⟨A,c,rfl⟩,rfl⟩
theorem rsomeR{R:Res}{s:Rst}{n:Nat}(h:s.Ok R)(hl:s.l.length≤1000000000)(hn:n≤4611686018427387903) :
  CP [] 105 [.ptr 0 0,iA n,.func (.func 106) [.ptr 0 0] []] [rdG s,.res R] (fun v H'=>∃xs s' v' G,someL Rst.rcd n s []=(xs,s')∧s'.Ok R∧SlF v' xs∧v=.lit v'∧H'=rdG s'::.res R::.res (OwnR rcL 4 72 v' xs)::G):=by
 refine CallS.post (CallS.pre (Pre.more (R:=OwnR rcL 4 72 nilV []) rfl (Ent.snocE own_zero _)) (rsomeR0 h hl hn)) ?_
 rintro _ _ ⟨xs,s',v',ys,G,e1,hs',hv,hf,rfl⟩
 rcases hv with ⟨rfl,rfl⟩|⟨rfl,rfl⟩
 ·exact ⟨_,Pre.same rfl (.refl _),ys,s',v',G,e1,hs',hf,rfl,rfl⟩
 ·exact ⟨rdG s'::.res R::.res (OwnR rcL 4 72 nilV [])::G,Pre.same rfl (.cons _ (.cons _ (.zero own_zero))),[],s',nilV,G,e1,hs',.inl ⟨rfl,rfl⟩,rfl,rfl⟩
theorem rsomeS0{R:Res}{s:Rst}{n:Nat}(h:s.Ok R)(hl:s.l.length≤1000000000)(hn:n≤4611686018427387903) :
  CP [] 107 [.ptr 0 0,iA n,.func (.func 108) [.ptr 0 0] []] [rdG s,.res R,.res (OwnR shL 6 78 nilV [])] (fun v H'=>∃xs s' v' ys G,someL Rst.shp n s []=(xs,s')∧s'.Ok R∧((v=.lit v'∧ys=xs)∨(v=.lit nilV∧xs=[]))∧SlF v' ys∧H'=rdG s'::.res R::.res (OwnR shL 6 78 v' ys)::G):=by
 refine fn_ok ev_ok rfl ?_
 conv=>whnf
 refine loopP ev_ok rfl (fun q:SmS Shp=>[(0,.ptr 0 0),(2,.func (.func 108) [.ptr 0 0] []),(9,iA n),(10,iA (q.i:Nat)),(7,.lit q.v)]) (fun q=>[rdG q.s,.res R,.res (OwnR shL 6 78 q.v q.xs)])
  (fun q=>q.i≤n∧q.s.Ok R∧SlF q.v q.xs∧someL Rst.shp n s []=someL Rst.shp (n - q.i) q.s q.xs∧q.xs.length+q.s.l.length≤1000000000) (fun q=>n - q.i) ⟨0,nilV,[],s⟩ ⟨Nat.zero_le _,h,.inl ⟨rfl,rfl⟩,rfl,by simpa using hl⟩ [0,1,2] ?_ ?_
 ·exact ⟨rfl,⟨⟨rfl,rfl⟩,⟨rfl,rfl⟩,⟨rfl,rfl⟩,⟨rfl,rfl⟩,⟨rfl,rfl⟩,tU⟩,⟨⟨_,rfl,rfl⟩,⟨_,rfl,kp⟩,⟨_,rfl,kp⟩,tU⟩⟩
 ·rintro ⟨i,v,xs,s1⟩ ⟨hi0,hs,hv,he,hlen⟩
  simp only[] at hi0 hs hv he hlen
  by_cases hi:i<n
  ·have en:n - i=(n - (i+1))+1:=by omega
   rw[en,someL] at he
   have hgo:∀(b:Bool) (x:Shp) (s':Rst),s1.shp=(x,s')→s'.bad=b→(b=true→someL Rst.shp n s []=([],s'))∧(b=false→someL Rst.shp n s []=someL Rst.shp (n - (i+1)) s' (xs++[x])∧(xs++[x]).length+s'.l.length≤1000000000):=fun b x s' e1 e2=>by
    rw[e1] at he
    simp only[] at he
    refine ⟨fun hb=>?_,fun hb=>?_⟩
    ·rw[he,e2,hb];rfl
    ·rw[e2,hb] at he
     refine ⟨he,?_⟩
     have:=(shp_dn (s:=s1) (by rw[e1];rw[e2,hb])).2
     rw[e1] at this
     simp only[] at this
     rw[List.length_append,List.length_singleton]
     omega
   rcases hv with ⟨rfl,rfl⟩|⟨A,c,rfl⟩
   ·conv=>whnf
    refine brP_of (fun _=>?_) (noF hi)
    have hxl:([]:List Shp).length=0:=rfl
    repeat' ((conv=>whnf);first|with_reducible apply brP_of<;>intro _|(refine (rshape hs).use [0,1] rfl rfl ⟨⟨_,rfl,rfl⟩,⟨_,rfl,kp⟩,tU⟩ ?_;rintro _ _ ⟨x,s',G,e1,hs',rfl,rfl⟩;refine ⟨[],?_⟩)|(refine AppP.om (OpM.appL ev_ok app_sh shL_len (by decide) sh_one (i:=2) (y:=x) (l:=([]:List Shp)) (v:=nilV) (R1:=resNil) (R':=fun v'=>OwnR shL 6 78 v' (([]:List Shp)++[x])) rfl rfl rfl rfl rfl rfl rfl own_split (fun v'=>own_join) (by omega) ?_);intro A2 m2))
    all_goals (try conv=>whnf)
    ·rename_i hb
     exact ⟨[],s',nilV,[],_,(hgo _ x s' e1 hb).1 rfl,hs',.inr ⟨rfl,rfl⟩,.inl ⟨rfl,rfl⟩,rfl⟩
    ·rename_i hb
     obtain ⟨k1,k2⟩:=(hgo _ x s' e1 hb).2 rfl
     exact ⟨⟨i+1,.slice (some A2) (([]:List Shp).length+1) m2,[]++[x],s'⟩,[0,1,2],⟨⟨hi,hs',.inr ⟨A2,m2,by simp⟩,k1,k2⟩,by show n - (i+1)<n - i;omega⟩,rfl,⟨⟨rfl,rfl⟩,⟨rfl,rfl⟩,⟨rfl,rfl⟩,⟨rfl,subInt rfl (wrap_in (by first|omega|(dsimp only;omega)) (by first|omega|(dsimp only;omega)))⟩,⟨rfl,rfl⟩,tU⟩,⟨⟨_,rfl,rfl⟩,⟨_,rfl,kp⟩,⟨_,rfl,kp⟩,tU⟩⟩
   ·conv=>whnf
    refine brP_of (fun _=>?_) (noF hi)
    repeat' ((conv=>whnf);first|with_reducible apply brP_of<;>intro _|(refine (rshape hs).use [0,1] rfl rfl ⟨⟨_,rfl,rfl⟩,⟨_,rfl,kp⟩,tU⟩ ?_;rintro _ _ ⟨x,s',G,e1,hs',rfl,rfl⟩;refine ⟨[],?_⟩)|(refine OpP.om (OpM.appL ev_ok app_sh shL_len (by decide) sh_one (i:=2) (y:=x) (l:=xs) (v:=(.slice (some A) xs.length c)) (R1:=resNil) (R':=fun v'=>OwnR shL 6 78 v' (xs++[x])) rfl rfl rfl rfl rfl rfl rfl own_split (fun v'=>own_join) (by omega) ?_);intro A2 m2))
    all_goals (try conv=>whnf)
    ·rename_i hb
     exact ⟨[],s',.slice (some A) xs.length c,xs,_,(hgo _ x s' e1 hb).1 rfl,hs',.inr ⟨rfl,rfl⟩,.inr ⟨A,c,rfl⟩,rfl⟩
    ·rename_i hb
     obtain ⟨k1,k2⟩:=(hgo _ x s' e1 hb).2 rfl
     exact ⟨⟨i+1,.slice (some A2) (xs.length+1) m2,xs++[x],s'⟩,[0,1,2],⟨⟨hi,hs',.inr ⟨A2,m2,by simp⟩,k1,k2⟩,by show n - (i+1)<n - i;omega⟩,rfl,⟨⟨rfl,rfl⟩,⟨rfl,rfl⟩,⟨rfl,rfl⟩,⟨rfl,subInt rfl (wrap_in (by first|omega|(dsimp only;omega)) (by first|omega|(dsimp only;omega)))⟩,⟨rfl,rfl⟩,tU⟩,⟨⟨_,rfl,rfl⟩,⟨_,rfl,kp⟩,⟨_,rfl,kp⟩,tU⟩⟩
  ·obtain rfl:i=n:=by omega
   rw[Nat.sub_self,someL] at he
   rcases hv with ⟨rfl,rfl⟩|⟨A,c,rfl⟩
   all_goals
    conv=>whnf
    refine brP_of (noT hi) (fun _=>?_)
    repeat' ((conv=>whnf);with_reducible apply brP_of<;>intro _)
    all_goals (try conv=>whnf)
   ·exact ⟨[],s1,nilV,[],[],he,hs,.inl ⟨rfl,rfl⟩,.inl ⟨rfl,rfl⟩,rfl⟩
   ·exact ⟨xs,s1,.slice (some A) xs.length c,xs,[],he,hs,.inl ⟨rfl,rfl⟩,.inr ⟨A,c,rfl⟩,rfl⟩
theorem rsomeS{R:Res}{s:Rst}{n:Nat}(h:s.Ok R)(hl:s.l.length≤1000000000)(hn:n≤4611686018427387903) :
  CP [] 107 [.ptr 0 0,iA n,.func (.func 108) [.ptr 0 0] []] [rdG s,.res R] (fun v H'=>∃xs s' v' G,someL Rst.shp n s []=(xs,s')∧s'.Ok R∧SlF v' xs∧v=.lit v'∧H'=rdG s'::.res R::.res (OwnR shL 6 78 v' xs)::G):=by
 refine CallS.post (CallS.pre (Pre.more (R:=OwnR shL 6 78 nilV []) rfl (Ent.snocE own_zero _)) (rsomeS0 h hl hn)) ?_
 rintro _ _ ⟨xs,s',v',ys,G,e1,hs',hv,hf,rfl⟩
 rcases hv with ⟨rfl,rfl⟩|⟨rfl,rfl⟩
 ·exact ⟨_,Pre.same rfl (.refl _),ys,s',v',G,e1,hs',hf,rfl,rfl⟩
 ·exact ⟨rdG s'::.res R::.res (OwnR shL 6 78 nilV [])::G,Pre.same rfl (.cons _ (.cons _ (.zero own_zero))),[],s',nilV,G,e1,hs',.inl ⟨rfl,rfl⟩,rfl,rfl⟩
theorem rsomeE0{R:Res}{s:Rst}{n:Nat}(h:s.Ok R)(hl:s.l.length≤1000000000)(hn:n≤4611686018427387903) :
  CP [] 110 [.ptr 0 0,iA n,.func (.func 111) [.ptr 0 0] []] [rdG s,.res R,.res (OwnR evL 4 81 nilV [])] (fun v H'=>∃xs s' v' ys G,someL Rst.evn n s []=(xs,s')∧s'.Ok R∧((v=.lit v'∧ys=xs)∨(v=.lit nilV∧xs=[]))∧SlF v' ys∧H'=rdG s'::.res R::.res (OwnR evL 4 81 v' ys)::G):=by
 refine fn_ok ev_ok rfl ?_
 conv=>whnf
 refine loopP ev_ok rfl (fun q:SmS Evn=>[(0,.ptr 0 0),(2,.func (.func 111) [.ptr 0 0] []),(9,iA n),(10,iA (q.i:Nat)),(7,.lit q.v)]) (fun q=>[rdG q.s,.res R,.res (OwnR evL 4 81 q.v q.xs)])
  (fun q=>q.i≤n∧q.s.Ok R∧SlF q.v q.xs∧someL Rst.evn n s []=someL Rst.evn (n - q.i) q.s q.xs∧q.xs.length+q.s.l.length≤1000000000) (fun q=>n - q.i) ⟨0,nilV,[],s⟩ ⟨Nat.zero_le _,h,.inl ⟨rfl,rfl⟩,rfl,by simpa using hl⟩ [0,1,2] ?_ ?_
 ·exact ⟨rfl,⟨⟨rfl,rfl⟩,⟨rfl,rfl⟩,⟨rfl,rfl⟩,⟨rfl,rfl⟩,⟨rfl,rfl⟩,tU⟩,⟨⟨_,rfl,rfl⟩,⟨_,rfl,kp⟩,⟨_,rfl,kp⟩,tU⟩⟩
 ·rintro ⟨i,v,xs,s1⟩ ⟨hi0,hs,hv,he,hlen⟩
  simp only[] at hi0 hs hv he hlen
  by_cases hi:i<n
  ·have en:n - i=(n - (i+1))+1:=by omega
   rw[en,someL] at he
   have hgo:∀(b:Bool) (x:Evn) (s':Rst),s1.evn=(x,s')→s'.bad=b→(b=true→someL Rst.evn n s []=([],s'))∧(b=false→someL Rst.evn n s []=someL Rst.evn (n - (i+1)) s' (xs++[x])∧(xs++[x]).length+s'.l.length≤1000000000):=fun b x s' e1 e2=>by
    rw[e1] at he
    simp only[] at he
    refine ⟨fun hb=>?_,fun hb=>?_⟩
    ·rw[he,e2,hb];rfl
    ·rw[e2,hb] at he
     refine ⟨he,?_⟩
     have:=(evn_dn (s:=s1) (by rw[e1];rw[e2,hb])).2
     rw[e1] at this
     simp only[] at this
     rw[List.length_append,List.length_singleton]
     omega
   rcases hv with ⟨rfl,rfl⟩|⟨A,c,rfl⟩
   ·conv=>whnf
    refine brP_of (fun _=>?_) (noF hi)
    have hxl:([]:List Evn).length=0:=rfl
    repeat' ((conv=>whnf);first|with_reducible apply brP_of<;>intro _|(refine (revent hs).use [0,1] rfl rfl ⟨⟨_,rfl,rfl⟩,⟨_,rfl,kp⟩,tU⟩ ?_;rintro _ _ ⟨x,s',G,e1,hs',rfl,rfl⟩;refine ⟨[],?_⟩)|(refine AppP.om (OpM.appL ev_ok app_ev evL_len (by decide) ev_one (i:=2) (y:=x) (l:=([]:List Evn)) (v:=nilV) (R1:=resNil) (R':=fun v'=>OwnR evL 4 81 v' (([]:List Evn)++[x])) rfl rfl rfl rfl rfl rfl rfl own_split (fun v'=>own_join) (by omega) ?_);intro A2 m2))
    all_goals (try conv=>whnf)
    ·rename_i hb
     exact ⟨[],s',nilV,[],_,(hgo _ x s' e1 hb).1 rfl,hs',.inr ⟨rfl,rfl⟩,.inl ⟨rfl,rfl⟩,rfl⟩
    ·rename_i hb
     obtain ⟨k1,k2⟩:=(hgo _ x s' e1 hb).2 rfl
     exact ⟨⟨i+1,.slice (some A2) (([]:List Evn).length+1) m2,[]++[x],s'⟩,[0,1,2],⟨⟨hi,hs',.inr ⟨A2,m2,by simp⟩,k1,k2⟩,by show n - (i+1)<n - i;omega⟩,rfl,⟨⟨rfl,rfl⟩,⟨rfl,rfl⟩,⟨rfl,rfl⟩,⟨rfl,subInt rfl (wrap_in (by first|omega|(dsimp only;omega)) (by first|omega|(dsimp only;omega)))⟩,⟨rfl,rfl⟩,tU⟩,⟨⟨_,rfl,rfl⟩,⟨_,rfl,kp⟩,⟨_,rfl,kp⟩,tU⟩⟩
   ·conv=>whnf
    refine brP_of (fun _=>?_) (noF hi)
    repeat' ((conv=>whnf);first|with_reducible apply brP_of<;>intro _|(refine (revent hs).use [0,1] rfl rfl ⟨⟨_,rfl,rfl⟩,⟨_,rfl,kp⟩,tU⟩ ?_;rintro _ _ ⟨x,s',G,e1,hs',rfl,rfl⟩;refine ⟨[],?_⟩)|(refine OpP.om (OpM.appL ev_ok app_ev evL_len (by decide) ev_one (i:=2) (y:=x) (l:=xs) (v:=(.slice (some A) xs.length c)) (R1:=resNil) (R':=fun v'=>OwnR evL 4 81 v' (xs++[x])) rfl rfl rfl rfl rfl rfl rfl own_split (fun v'=>own_join) (by omega) ?_);intro A2 m2))
    all_goals (try conv=>whnf)
    ·rename_i hb
     exact ⟨[],s',.slice (some A) xs.length c,xs,_,(hgo _ x s' e1 hb).1 rfl,hs',.inr ⟨rfl,rfl⟩,.inr ⟨A,c,rfl⟩,rfl⟩
    ·rename_i hb
     obtain ⟨k1,k2⟩:=(hgo _ x s' e1 hb).2 rfl
     exact ⟨⟨i+1,.slice (some A2) (xs.length+1) m2,xs++[x],s'⟩,[0,1,2],⟨⟨hi,hs',.inr ⟨A2,m2,by simp⟩,k1,k2⟩,by show n - (i+1)<n - i;omega⟩,rfl,⟨⟨rfl,rfl⟩,⟨rfl,rfl⟩,⟨rfl,rfl⟩,⟨rfl,subInt rfl (wrap_in (by first|omega|(dsimp only;omega)) (by first|omega|(dsimp only;omega)))⟩,⟨rfl,rfl⟩,tU⟩,⟨⟨_,rfl,rfl⟩,⟨_,rfl,kp⟩,⟨_,rfl,kp⟩,tU⟩⟩
  ·obtain rfl:i=n:=by omega
   rw[Nat.sub_self,someL] at he
   rcases hv with ⟨rfl,rfl⟩|⟨A,c,rfl⟩
   all_goals
    conv=>whnf
    refine brP_of (noT hi) (fun _=>?_)
    repeat' ((conv=>whnf);with_reducible apply brP_of<;>intro _)
    all_goals (try conv=>whnf)
   ·exact ⟨[],s1,nilV,[],[],he,hs,.inl ⟨rfl,rfl⟩,.inl ⟨rfl,rfl⟩,rfl⟩
   ·exact ⟨xs,s1,.slice (some A) xs.length c,xs,[],he,hs,.inl ⟨rfl,rfl⟩,.inr ⟨A,c,rfl⟩,rfl⟩
theorem rsomeE{R:Res}{s:Rst}{n:Nat}(h:s.Ok R)(hl:s.l.length≤1000000000)(hn:n≤4611686018427387903) :
  CP [] 110 [.ptr 0 0,iA n,.func (.func 111) [.ptr 0 0] []] [rdG s,.res R] (fun v H'=>∃xs s' v' G,someL Rst.evn n s []=(xs,s')∧s'.Ok R∧SlF v' xs∧v=.lit v'∧H'=rdG s'::.res R::.res (OwnR evL 4 81 v' xs)::G):=by
 refine CallS.post (CallS.pre (Pre.more (R:=OwnR evL 4 81 nilV []) rfl (Ent.snocE own_zero _)) (rsomeE0 h hl hn)) ?_
 rintro _ _ ⟨xs,s',v',ys,G,e1,hs',hv,hf,rfl⟩
 rcases hv with ⟨rfl,rfl⟩|⟨rfl,rfl⟩
 ·exact ⟨_,Pre.same rfl (.refl _),ys,s',v',G,e1,hs',hf,rfl,rfl⟩
 ·exact ⟨rdG s'::.res R::.res (OwnR evL 4 81 nilV [])::G,Pre.same rfl (.cons _ (.cons _ (.zero own_zero))),[],s',nilV,G,e1,hs',.inl ⟨rfl,rfl⟩,rfl,rfl⟩
theorem num_l{k:Nat}{s s':Rst}{x:Nat}(h:s.num k=(x,s')):s'.l.length≤s.l.length:=by
 have e:s'=(s.num k).2:=by rw[h]
 subst e
 unfold Rst.num
 split
 all_goals
  unfold Rst.long Rst.take
  simp only[]
  split
  ·simp only[List.length_drop];omega
  ·simp
theorem long_l{k:Nat}{s s':Rst}{x:Nat}(h:s.long k=(x,s')):s'.l.length≤s.l.length:=by
 have e:s'=(s.long k).2:=by rw[h]
 subst e
 unfold Rst.long Rst.take
 simp only[]
 split
 ·simp only[List.length_drop];omega
 ·simp
theorem num_b{k:Nat}{s s':Rst}{x:Nat}(h:s.num k=(x,s')):x≤4611686018427387903:=by
 have e:x=(s.num k).1:=by rw[h]
 rw[e]
 exact Rst.num_le k s
theorem slF_form{α:Type}{v:Value}{l:List α}(h:SlF v l):∃oa c,v=.slice oa l.length c:=by
 rcases h with ⟨rfl,rfl⟩|⟨A,n,rfl⟩
 ·exact ⟨none,0,rfl⟩
 ·exact ⟨_,_,rfl⟩
def Rst.mem(s:Rst):(Mem×List Tik)×Rst:=
 let u:=s.num 2
 let r:=u.2.num 1
 let t:=r.2.num 1
 let q:=t.2.num 2
 let k:=q.2.num 2
 let a:=k.2.long 8
 let n:=a.2.num 1
 let ts:=someL Rst.tik n.1 n.2 []
 ((⟨u.1,r.1,t.1,q.1,k.1,a.1⟩,ts.1),ts.2)
theorem rmember{R:Res}{s:Rst}(h:s.Ok R)(hl:s.l.length≤1000000000):CP [] 104 [.ptr 0 0] [rdG s,.res R] (fun v H'=>∃m ts s' v' G1 G2 G3 G4 G5 G,s.mem=((m,ts),s')∧s'.Ok R∧SlF v' ts∧v=.tuple [.agg (mA m),.lit v']∧H'=rdG s'::.res R::G1::G2::G3::G4::G5::.res (OwnR tC 10 96 v' ts)::G):=by
 refine fn_ok ev_ok rfl ?_
 refine FnW.of rfl rfl ?_
 refine WpC.seqG fun F hF=>?_
 repeat' ((conv=>whnf);first|with_reducible apply brP_of<;>intro _|refine WpS.drawn ev_ok rfl rfl ?_|with_reducible refine And.intro (AgP.mk ⟨_,rfl,rfl⟩) ?_|(refine (rinto1 (k:=2) (j0:=0) (cs:=[iA 0,iA 0,iA 0,iA 0,iA 0,uA 0]) (T:=51) (P:=189) h (by decide) (by decide) (by simp) (fun _=>rfl)).use [0,1,3,4] rfl rfl ⟨⟨_,rfl,rfl⟩,⟨_,rfl,kp⟩,⟨_,rfl,rfl⟩,⟨_,rfl,rfl⟩,tU⟩ ?_;rintro _ _ ⟨x0,s1,G1,e0,h1,rfl,rfl⟩;refine ⟨[],?_⟩)|(refine (rinto2 (k:=1) (j0:=1) (j1:=2) (cs:=[iA (x0:Nat),iA 0,iA 0,iA 0,iA 0,uA 0]) (T:=51) (P:=189) h1 (by decide) (by decide) (by simp) (by simp) (fun _=>rfl)).use [0,1,3,5] rfl rfl ⟨⟨_,rfl,rfl⟩,⟨_,rfl,kp⟩,⟨_,rfl,rfl⟩,⟨_,rfl,rfl⟩,tU⟩ ?_;rintro _ _ ⟨x1,s2,x2,s3,G3,⟨e1,e2⟩,h3,rfl,rfl⟩;refine ⟨[],?_⟩)|(refine (rinto2 (k:=2) (j0:=3) (j1:=4) (cs:=[iA (x0:Nat),iA (x1:Nat),iA (x2:Nat),iA 0,iA 0,uA 0]) (T:=51) (P:=189) h3 (by decide) (by decide) (by simp) (by simp) (fun _=>rfl)).use [0,1,3,6] rfl rfl ⟨⟨_,rfl,rfl⟩,⟨_,rfl,kp⟩,⟨_,rfl,rfl⟩,⟨_,rfl,rfl⟩,tU⟩ ?_;rintro _ _ ⟨x3,s4,x4,s5,G5,⟨e3,e4⟩,h5,rfl,rfl⟩;refine ⟨[],?_⟩)|(refine (rlongE (k:=8) h5 (by decide) (by decide)).use [0,1] rfl rfl ⟨⟨_,rfl,rfl⟩,⟨_,rfl,kp⟩,tU⟩ ?_;rintro _ _ ⟨x5,s6,G6,e5,h6,rfl,rfl⟩;refine ⟨[],?_⟩)|(refine (rnumE (k:=1) h6 (by decide) (by decide)).use [0,1] rfl rfl ⟨⟨_,rfl,rfl⟩,⟨_,rfl,kp⟩,tU⟩ ?_;rintro _ _ ⟨x6,s7,G7,e6,h7,rfl,rfl⟩;refine ⟨[],?_⟩)|(refine (rsomeT (n:=x6) h7 (by have:=num_l e0;have:=num_l e1;have:=num_l e2;have:=num_l e3;have:=num_l e4;have:=long_l e5;have:=num_l e6;omega) (num_b e6)).use [0,1] rfl rfl ⟨⟨_,rfl,rfl⟩,⟨_,rfl,kp⟩,tU⟩ ?_;rintro _ _ ⟨ts,s8,v',G8,e7,h8,hv,rfl,rfl⟩;refine ⟨[2],?_⟩;obtain ⟨oa,c,rfl⟩:=slF_form hv)|refine WpS.drawn ev_ok rfl rfl ?_|(show F _ _ _;subst hF;refine WpC.seqG fun F hF=>?_)|(show F _ _ _;subst hF))
 all_goals (try conv=>whnf)
 exact ⟨⟨x0,x1,x2,x3,x4,x5⟩,ts,s8,_,_,_,_,_,_,[],by simp only[Rst.mem,e0,e1,e2,e3,e4,e5,e6,e7],h8,hv,rfl,rfl⟩
end Go.Proofs.YtmbdghclhpboaaaGreat
namespace Go.Proofs.YtmbdghclhpboaaaGreat.Ev
open Go.RowKit
section
variable{P:Program}{E:Env}(hE:EnvOk P E){S:List Nat}{t:Tmps}{H:List AObj}{K:AV→List AObj→Prop}
include hE
theorem OpP.bytesStr{src dst e:TypeId}{r er dr:TyRow}{x:Operand}{a:Addr}{n c i:Nat}{l:List UInt8}{R:Res}(hs:E.ty src=some r)(hu:r.und=.slice e)(he:E.ty e=some er)(heu:er.und=.int .u8)(hd:E.ty dst=some dr)(hdu:dr.und=.string)(hx:opnd t x=some (.lit (.slice (some a) n c)))(hn:l.length=n)(hi:H[i]?=some (.res R))(hc:∀w S,R.at_ w S→∀j (hj:j<l.length),w.cell? (a.add j)=some (.int .u8 (l[j].toNat:Int)))(h:K (.lit (.string ⟨l.toArray⟩)) H):OpP E P true S t H (.convert src dst x) K:=
 ⟨.inr ⟨rfl,⟨fun F γ w ρ hR hpl hrs hρ o' ho=>by
  have h1:=hρ x _ (by simp[Op.operands]) hx
  rw[conc_lit_iff] at h1
  obtain ⟨T,hT,_⟩:=hrs.out
  have hti:(rss H)[i]?=some R:=by unfold rss;rw[List.getElem?_map,hi];rfl
  obtain ⟨S1,S2,b1,_,_,_⟩:=stars_at hT hti
  refine ⟨_,H,γ,.value (.string ⟨l.toArray⟩),w,?_,.inl ⟨_,rfl,conc_lit γ _⟩,h,hR,.refl γ _,hpl,hrs⟩
  obtain ⟨dst',op,type,pos,after,guard⟩:=o'
  simp only[] at ho
  subst ho
  simp only[execOp]
  refine run_v ?_
  rw[h1]
  subst hn
  exact run_convert_bytes_back w src dst e a c l (by rw[hE.und src r hs,hu]) (by rw[hE.und e er he,heu]) (by rw[hE.und dst dr hd,hdu]) (hc w S1 b1)⟩⟩⟩
end
theorem concs_app{γ:Gam}:∀{l1 l2:List AV} {xs:List Value},Concs γ (l1++l2) xs↔∃x1 x2,xs=x1++x2∧Concs γ l1 x1∧Concs γ l2 x2
 | [],l2,xs=>⟨fun h=>⟨[],xs,rfl,rfl,h⟩,fun ⟨x1,x2,h1,h2,h3⟩=>by
   simp only[Concs] at h2
   subst h1 h2
   exact h3⟩
 | v::l1,l2,xs=>by
   constructor
   ·rintro ⟨x,ys,rfl,h1,h2⟩
    obtain ⟨x1,x2,rfl,h3,h4⟩:=concs_app.1 h2
    exact ⟨x::x1,x2,rfl,⟨x,x1,rfl,h1,h3⟩,h4⟩
   ·rintro ⟨_,x2,rfl,⟨x,x1,rfl,h1,h3⟩,h4⟩
    exact ⟨x,x1++x2,rfl,h1,concs_app.2 ⟨x1,x2,rfl,h3,h4⟩⟩
def OffO(o:Nat)(u:AV):Prop:=∀g:Nat→Nat,(∀q,q≠o→g q=q)→u.ren g=u
theorem conc_off{γ γ':Gam}{o:Nat}(h:∀i,i≠o→γ' i=γ i){u:AV}(hu:OffO o u){x:Value}(k:Conc γ u x):Conc γ' u x:=by
 have hg:=hu (fun i=>if i=o then o+1 else i) (fun i hi=>if_neg hi)
 rw[←hg] at k ⊢
 rw[conc_ren] at k ⊢
 have e:(fun i=>γ (if i=o then o+1 else i))=fun i=>γ' (if i=o then o+1 else i):=funext fun i=>by
  by_cases hi:i=o
  ·simp only[if_pos hi]
   exact (h _ (by omega)).symm
  ·simp only[if_neg hi]
   exact (h _ hi).symm
 rw[←e]
 exact k
theorem concs_off{γ γ':Gam}{o:Nat}(h:∀i,i≠o→γ' i=γ i):∀{l:List AV} {xs:List Value},(∀u∈l,OffO o u)→Concs γ l xs→Concs γ' l xs
 | [],_,_,k=>k
 | u::l,_,hu,⟨x,xs,e,h1,h2⟩=>⟨x,xs,e,conc_off h (hu u (by simp)) h1,concs_off h (fun v hv=>hu v (by simp[hv])) h2⟩
theorem CallS.litA{P:Program}{f:Nat}{args:List AV}{H:List AObj}{K' K:AV→List AObj→Prop}(c:CallS P [] f args H K')
  (hk:∀v H',K' v H'→K v H'∨∃(l1 l2:List AV) (o n:Nat) (cap:Cap) (xs:List Value) (e:TypeId),v=.agg (l1++.slice o 0 n cap::l2)∧0<n∧H'[o]?=some (.row xs e)∧(∀u∈l1++l2,OffO o u)∧∀b off m,K (.agg (l1++.lit (.slice (some ⟨b,off,none⟩) n m)::l2)) (H'.set o (.res (LayR ⟨b,off,none⟩ xs)))):CallS P [] f args H K:=⟨fun F γ w ys hR hpl hrs hys=>by
 obtain ⟨c1,c2⟩:=c.out F γ w ys hR hpl hrs hys
 refine ⟨c1,fun R hRet=>c2 R fun v H' γ' x w' k1 k2 k3=>?_⟩
 rcases hk v H' k1 with h|⟨l1,l2,o,n,cap,xs,e,rfl,hn,ho,hoff,h⟩
 ·exact hRet v H' γ' x w' h k2 k3
 ·obtain ⟨a,rfl,k2⟩:=k2
  obtain ⟨x1,x2,hx,q1,q2⟩:=concs_app.1 k2
  obtain ⟨y,x3,rfl,q3,q4⟩:=q2
  simp only[Conc] at q3
  obtain ⟨ad,m,rfl,hat,hnm,_⟩:=q3
  have hat:=hat.resolve_left (by omega)
  have hol:o<H'.length:=get_lt ho
  have hpo:γ' o≠none:=k3.pl o hol (by simp)
  have hne:∃p,γ' o=some (some p):=by
   cases hg:γ' o with
   | none=>exact absurd hg hpo
   | some q=>
     cases q with
     | some p=>exact ⟨p,rfl⟩
     | none=>
       have h1:=k3.rel.gone o hg
       rw[hp_get k3.rel.lim] at h1
       rw[ho] at h1
       cases h1
  obtain ⟨p,hp'⟩:=hne
  unfold atP at hat
  rw[hp'] at hat
  simp only[Nat.add_zero] at hat
  subst hat
  obtain ⟨h1,h2,h3⟩:=lower_obj k3.rel k3.rs hp' (.inl ho)
  have g1:∀i,i≠o→(upd γ' o none) i=γ' i:=fun i h=>upd_ne _ _ h
  refine hRet _ _ _ _ w' (h _ _ m) ⟨a,rfl,concs_app.2 ⟨x1,_,hx,concs_off g1 (fun u hu=>hoff u (by simp[hu])) q1,_,_,rfl,conc_lit _ _,concs_off g1 (fun u hu=>hoff u (by simp[hu])) q4⟩⟩ ⟨h1,k3.step.trans h3,fun q hq _=>?_,h2⟩
  by_cases e:q=o
  ·rw[e,upd_self];simp
  ·rw[upd_ne _ _ e];exact k3.pl q (by simpa using hq) (by simp)⟩
end Go.Proofs.YtmbdghclhpboaaaGreat.Ev
