/- Part of the proof: SnE Stp Rdp Rdp2 Eql Dec. Conditions: as each states. -/
import Derived.Test.YtmbdghclhpboaaaGreatPb40
set_option linter.all false
set_option maxRecDepth 100000
set_option maxHeartbeats 8000000
namespace Go.Proofs.YtmbdghclhpboaaaGreat
open Ev
theorem sgood{R:Res}{q:Sta}{tk:List TkS}(h:q.Rd R)(hk:q.Tk R tk)(h0:q.ms.length≤60000)(h1:q.rs.length≤60000)(h2:q.ss.length≤60000)(h3:q.es.length≤60000):CP [] 27 [.agg q.a] [.res R] (fun v H'=>v=bA (impOk q tk)∧∃G,H'=.res R::G):=by
 refine fn_ok ev_ok rfl ?_
 repeat' ((conv=>whnf);first|with_reducible apply brP_of<;>intro _|(refine (timport1 h hk h0 h1 h2 h3).use [0] rfl rfl ⟨⟨_,rfl,kp⟩,tU⟩ ?_;rintro _ _ (⟨hi,rfl,t,G,_,rfl⟩|⟨hi,rfl,G,rfl⟩);refine ⟨[2,3,4,5,6,7,8,9,10],?_⟩;rotate_left;refine ⟨[],?_⟩;rotate_left))
 all_goals (try conv=>whnf)
 all_goals rw[hi]
 all_goals exact ⟨rfl,_,rfl⟩
def EncPost(R:Res)(q:Sta)(tk:List TkS)(v:AV)(H':List AObj):Prop:=
 (impOk q tk=false∧v=.tuple [.lit nilV,iA 1]∧∃G,H'=.res R::G) ∨
 (impOk q tk=true∧65536<(staB q tk).length∧v=.tuple [.lit nilV,iA 2]∧∃G,H'=.res R::G) ∨
 (impOk q tk=true∧(staB q tk).length≤65536∧∃A n,v=.tuple [.lit (.slice (some A) (staB q tk).length n),iA 0]∧∃G1 G2 G,H'=.res R::G1::G2::.res (OwnR byC 1 tBy (.slice (some A) (staB q tk).length n) (staB q tk))::G)
theorem sta_ne{q:Sta}{tk:List TkS}:staB q tk≠[]:=fun e=>by
 have:=congrArg List.length e
 unfold staB at this
 rw[List.length_append,toBE_len] at this
 simp only[List.length_nil] at this
 omega
theorem own_by0(w:World):(OwnR byC 1 tBy nilV ([]:List UInt8)).at_ w fun _=>False:=⟨Own.nil,fun b=>by simp[nilV,Value.ownBlock]⟩
theorem sencode{R:Res}{q:Sta}{tk:List TkS}(h:q.Rd R)(hk:q.Tk R tk)(h0:q.ms.length≤60000)(h1:q.rs.length≤60000)(h2:q.ss.length≤60000)(h3:q.es.length≤60000)(ho:impOk q tk=true→StOk q tk):CP [] 11 [.agg q.a] [.res R] (EncPost R q tk):=by
 refine fn_ok ev_ok rfl ?_
 repeat' ((conv=>whnf);first|with_reducible apply brP_of<;>intro _|(refine (sgood h hk h0 h1 h2 h3).use [0] rfl rfl ⟨⟨_,rfl,kp⟩,tU⟩ ?_;rintro _ _ ⟨rfl,G,rfl⟩;refine ⟨[],?_⟩)|(refine CallS.pre (Pre.more (R:=OwnR byC 1 tBy nilV []) rfl (Ent.snocE own_by0 _)) ?_;refine (wstate1 (v:=nilV) (.inl ⟨rfl,rfl⟩) h hk (ho (by assumption))).use [2,3,0] rfl rfl ⟨⟨_,rfl,rfl⟩,⟨_,rfl,kp⟩,⟨_,rfl,kp⟩,tU⟩ ?_;rintro _ _ ⟨rfl,v',d,G,hd,hv',rfl⟩;refine ⟨[],?_⟩;obtain ⟨A,n,rfl⟩:=slF_ne hv' (by rw[hd];exact sta_ne)))
 all_goals (try conv=>whnf)
 ·rename_i hx
  rw[←hd]
  exact .inr (.inl ⟨by assumption,by have:=of_decide_eq_true hx;omega,rfl,_,rfl⟩)
 ·rename_i hx
  rw[←hd]
  exact .inr (.inr ⟨by assumption,by have:=of_decide_eq_false hx;omega,A,n,rfl,_,_,_,rfl⟩)
 ·exact .inl ⟨by assumption,rfl,_,rfl⟩
theorem enrolled_ok{m:Mem}(h:m.enrolled=true):(0≤m.user∧m.user≤65535)∧(0≤m.role∧m.role≤7)∧(0≤m.tier∧m.tier≤7)∧(0≤m.quota∧m.quota≤65535)∧(0≤m.k∧m.k≤65535):=by
 unfold Mem.enrolled at h
 split at h
 ·have h:=of_decide_eq_true h
  omega
 ·rw[Bool.and_eq_true,Bool.or_eq_true] at h
  obtain ⟨h1,h2⟩:=h
  unfold Mem.right at h1
  have h1:=of_decide_eq_true h1
  simp only[] at h1
  have h3:0≤m.k∧m.k≤65535:=by
   rcases h2 with h2|h2<;>have:=of_decide_eq_true h2<;>omega
  omega
theorem tikFromF_ok:∀(l acc:List Tik),(tikFromF l acc).isSome=true→∀k∈l,k.g.right=true
 | [],_,_,k,hk=>by cases hk
 | a::l,acc,h,k,hk=>by
   unfold tikFromF at h
   split at h
   ·cases h
   ·rename_i hc
    rcases List.mem_cons.1 hk with rfl|hk
    ·simp only[Bool.or_eq_true,not_or,Bool.not_eq_true'] at hc
     have:=hc.1.1.1
     simpa using this
    ·exact tikFromF_ok l _ h k hk
theorem right_ok{g:Gra}(h:g.right=true):(0≤g.ops∧g.ops≤31)∧(0≤g.zoom∧g.zoom≤16)∧(0≤g.till∧g.till≤4294967295)∧(0≤g.x0∧g.x0≤65535)∧(0≤g.y0∧g.y0≤65535)∧(0≤g.x1∧g.x1≤65535)∧(0≤g.y1∧g.y1≤65535):=by
 unfold Gra.right at h
 rw[Bool.and_eq_true] at h
 obtain ⟨h1,h2⟩:=h
 have h1:=of_decide_eq_true h1
 split at h2
 ·have h2:=of_decide_eq_true h2
  omega
 ·unfold rcOk at h2
  have h2:=of_decide_eq_true h2
  omega
theorem pw1:(256:Int) ^ 1=256:=rfl
theorem pw2:(256:Int) ^ 2=65536:=rfl
theorem pw4:(256:Int) ^ 4=4294967296:=rfl
theorem pw8:(256:Int) ^ 8=18446744073709551616:=rfl
theorem numOk2{x:Int}(h:0≤x∧x≤65535):NumOk 2 x:=⟨h.1,by rw[pw2];omega,by omega⟩
theorem numOk1{x:Int}(h:0≤x∧x≤255):NumOk 1 x:=⟨h.1,by rw[pw1];omega,by omega⟩
theorem numOk4{x:Int}(h:0≤x∧x≤4294967295):NumOk 4 x:=⟨h.1,by rw[pw4];omega,by omega⟩
theorem tikOk_of{k:Tik}(h:k.g.right=true)(hs:k.secret<18446744073709551616∧k.parent<18446744073709551616):TikOk k:=by
 obtain ⟨h1,h2,h3,h4,h5,h6,h7⟩:=right_ok h
 refine ⟨fun p hp x hx=>?_,hs⟩
 simp only[tikP,List.mem_cons,List.not_mem_nil,or_false] at hp
 rcases hp with rfl|rfl|rfl<;>simp only[List.mem_cons,List.not_mem_nil,or_false] at hx
 ·rcases hx with rfl|rfl|rfl
  ·exact numOk1 (by omega)
  ·exact numOk1 (by omega)
  ·refine numOk1 ?_
   unfold voidI
   split<;>omega
 ·rcases hx with rfl|rfl|rfl|rfl<;>exact numOk2 (by omega)
 ·subst hx
  exact numOk4 h3
theorem toks_short{s:List UInt8}(h:(toks s).2.err=0):s.length≤512:=by
 rcases Nat.lt_or_ge 512 s.length with h1|h1
 ·unfold toks at h
  rw[if_pos h1] at h
  cases h
 ·exact h1
theorem readR_short{s:List UInt8}(h:(readR s).2.err=0):s.length≤512:=by
 unfold readR at h
 split at h
 ·rename_i h1
  unfold parse at h1
  split at h1
  ·rename_i h2
   exact absurd h1 h2
  ·rename_i h2
   exact toks_short (by omega)
 ·rename_i h1
  exact absurd h h1
theorem stOk_of{R:Res}{q:Sta}{tk:List TkS}(hk:q.Tk R tk)(h0:q.ms.length≤60000)(h1:q.rs.length≤60000)(h2:q.ss.length≤60000)(h3:q.es.length≤60000)(hA:∀m∈q.ms,0≤m.area∧m.area<18446744073709551616)(h:impOk q tk=true):StOk q tk:=by
 unfold impOk at h
 simp only[Bool.and_eq_true] at h
 obtain ⟨hs,⟨hr,_⟩,ht⟩:=h
 have hr:=of_decide_eq_true hr
 unfold Sta.sound at hs
 simp only[Bool.and_eq_true] at hs
 obtain ⟨ha,⟨hl,hp⟩,he⟩:=hs
 have ha:=of_decide_eq_true ha
 unfold Sta.listed at hl
 simp only[Bool.and_eq_true] at hl
 obtain ⟨⟨_,_,hen⟩,⟨⟨_,_⟩,hri⟩,hsi⟩:=hl
 have hen:∀m∈q.ms,m.enrolled=true:=fun m hm=>by
  simp only[Bool.not_eq_true',List.any_eq_false] at hen
  have:=hen m hm
  simpa using this
 have hus:∀u∈q.us,0≤u∧u≤65535:=fun u hu=>by
  unfold Sta.us at hu
  obtain ⟨m,hm,rfl⟩:=List.mem_map.1 hu
  exact (enrolled_ok (hen m hm)).1
 have hin:∀{l:List Int},(!l.any fun x=>!q.us.any fun y=>x==y)=true→∀x∈l,0≤x∧x≤65535:=fun {l} hl x hx=>by
  simp only[Bool.not_eq_true',List.any_eq_false] at hl
  have h4:=hl x hx
  cases h5:(q.us.any fun y=>x==y) with
  | false=>exact absurd (fun y hy e=>by rw[List.any_eq_false] at h5;exact h5 y hy e) h4
  | true=>
    obtain ⟨y,hy,e⟩:=List.any_eq_true.1 h5
    rw[beq_iff_eq.1 e]
    exact hus y hy
 have htl:tk.length=q.ms.length:=by rw[←hk.nt];exact ha.1
 rw[List.all_eq_true] at ht
 refine ⟨⟨ha.2.1,by rw[pw8];omega,by omega⟩,h0,htl,fun i hi hi2=>?_,h1,fun x hx=>?_,h2,fun x hx=>?_,Nat.le_trans (readR_short hr) (by decide),h3,fun x hx=>?_⟩
 ·have hm:=List.getElem_mem hi
  have hx:=List.getElem_mem hi2
  obtain ⟨e1,e2,e3,e4,e5⟩:=enrolled_ok (hen _ hm)
  have hf:=ht _ hx
  have hlen:tk[i].l.length≤8:=by
   unfold tikFrom at hf
   split at hf
   ·cases hf
   ·omega
  have hfr:(tikFromF tk[i].l []).isSome=true:=by
   unfold tikFrom at hf
   rw[if_neg (by omega)] at hf
   exact hf
  refine ⟨fun p hp x hx=>?_,hA _ hm,hlen,fun k hkk=>tikOk_of (tikFromF_ok _ _ hfr k hkk) (hk.bd _ hx k hkk)⟩
  simp only[memP,List.mem_cons,List.not_mem_nil,or_false] at hp
  rcases hp with rfl|rfl|rfl<;>simp only[List.mem_cons,List.not_mem_nil,or_false] at hx
  ·subst hx;exact numOk2 e1
  ·rcases hx with rfl|rfl<;>exact numOk1 (by omega)
  ·rcases hx with rfl|rfl<;>exact numOk2 (by omega)
 ·have h4:=List.all_eq_true.1 hp.1 x hx
  unfold Rcd.placed at h4
  rw[Bool.and_eq_true] at h4
  have h5:=of_decide_eq_true h4.1
  have h6:=of_decide_eq_true h4.2
  have h7:=hin hri x.id (List.mem_map.2 ⟨x,hx,rfl⟩)
  intro p hp' y hy
  simp only[recP,List.mem_cons,List.not_mem_nil,or_false] at hp'
  rcases hp' with rfl|rfl<;>simp only[List.mem_cons,List.not_mem_nil,or_false] at hy
  ·rcases hy with rfl|rfl|rfl<;>exact numOk2 (by omega)
  ·subst hy;exact numOk1 (by omega)
 ·have h4:=List.all_eq_true.1 hp.2 x hx
  unfold Shp.placed rcOk at h4
  rw[Bool.and_eq_true] at h4
  have h5:=of_decide_eq_true h4.1
  have h6:=of_decide_eq_true h4.2
  have h7:=hin hsi x.id (List.mem_map.2 ⟨x,hx,rfl⟩)
  intro p hp' y hy
  simp only[shpP,List.mem_cons,List.not_mem_nil,or_false] at hp'
  rcases hp' with rfl|rfl|rfl<;>simp only[List.mem_cons,List.not_mem_nil,or_false] at hy
  ·subst hy;exact numOk2 h7
  ·rcases hy with rfl|rfl|rfl|rfl<;>exact numOk2 (by omega)
  ·subst hy;exact numOk1 (by omega)
 ·simp only[Bool.not_eq_true',List.any_eq_false] at he
  have h4:=he x hx
  simp only[Bool.not_eq_true',Bool.not_eq_false] at h4
  unfold Evn.happened at h4
  have h4:=of_decide_eq_true h4
  intro p hp' y hy
  simp only[evnP,List.mem_cons,List.not_mem_nil,or_false] at hp'
  rcases hp' with rfl|rfl|rfl<;>simp only[List.mem_cons,List.not_mem_nil,or_false] at hy
  ·subst hy;exact numOk2 (by omega)
  ·rcases hy with rfl|rfl<;>exact numOk1 (by omega)
  ·subst hy;exact numOk4 (by omega)
theorem some_c{α:Type}{one:Rst→α×Rst}{c:Nat}(h1:∀s,(one s).2.bad=false→(one s).2.l.length+c≤s.l.length)(h2:∀s,(one s).2.l.length≤s.l.length):∀(n:Nat) (s:Rst) (acc:List α),c * (someL one n s acc).1.length+(someL one n s acc).2.l.length≤s.l.length+c * acc.length
 | 0,s,acc=>by
   show c * acc.length+s.l.length≤_
   omega
 | n+1,s,acc=>by
   unfold someL
   split
   ·have:=h2 s
    simp only[List.length_nil,Nat.mul_zero]
    omega
   ·rename_i hb
    have h3:=h1 s (by simpa using hb)
    have h4:=some_c h1 h2 n (one s).2 (acc++[(one s).1])
    rw[List.length_append,List.length_singleton,Nat.mul_add] at h4
    omega
theorem mem_l2(s:Rst):s.mem.2.l.length≤s.l.length:=by
 unfold Rst.mem
 simp only[]
 refine Nat.le_trans (some_l tik_l _ _ _) ?_
 refine Nat.le_trans (num_l2 _ _) ?_
 refine Nat.le_trans (long_l2 _ _) ?_
 refine Nat.le_trans (num_l2 _ _) ?_
 refine Nat.le_trans (num_l2 _ _) ?_
 refine Nat.le_trans (num_l2 _ _) ?_
 refine Nat.le_trans (num_l2 _ _) ?_
 exact num_l2 _ _
theorem mems_c:∀(n:Nat) (s:Rst) (acc:List (Mem×List Tik)),2 * (memsL n s acc).1.length+(memsL n s acc).2.1.l.length≤s.l.length+2 * acc.length
 | 0,s,acc=>by
   unfold memsL
   simp only[]
   omega
 | n+1,s,acc=>by
   have h3:=mem_l2 s
   have h4:=mem_l s
   unfold memsL
   obtain ⟨p,hp⟩:∃p,p=s.mem:=⟨_,rfl⟩
   rw[←hp] at h3 h4 ⊢
   split
   ·simp only[]
    omega
   ·rename_i hb
    have h4:=h4.resolve_right hb
    have h5:=mems_c n p.2 (acc++[p.1])
    rw[List.length_append,List.length_singleton] at h5
    omega
theorem mem_a(s:Rst):0≤s.mem.1.1.area∧s.mem.1.1.area<18446744073709551616:=by
 unfold Rst.mem
 simp only[]
 have h:=long_lt (s:=((((s.num 2).2.num 1).2.num 1).2.num 2).2.num 2 |>.2) (k:=8) (by decide)
 exact ⟨Int.natCast_nonneg _,by omega⟩
theorem mems_a:∀(n:Nat) (s:Rst) (acc:List (Mem×List Tik)),(∀m∈acc,0≤m.1.area∧m.1.area<18446744073709551616)→∀m∈(memsL n s acc).1,0≤m.1.area∧m.1.area<18446744073709551616
 | 0,s,acc,h=>h
 | n+1,s,acc,h=>by
   unfold memsL
   split
   ·exact h
   ·exact mems_a n _ _ fun m hm=>by
     rcases List.mem_append.1 hm with hm|hm
     ·exact h m hm
     ·rw[List.mem_singleton.1 hm]
      exact mem_a s
theorem sta_a{s s':Rst}{x:StaX}(h:s.sta=(x,s')):∀m∈x.ms,0≤m.1.area∧m.1.area<18446744073709551616:=by
 have e:x=s.sta.1:=by rw[h]
 rw[e,sta_ms]
 exact mems_a _ _ _ (fun m hm=>by cases hm)
theorem sta_c{s s':Rst}{x:StaX}(h:s.sta=(x,s')):2 * x.ms.length≤s.l.length∧7 * x.rs.length≤s.l.length∧11 * x.ss.length≤s.l.length∧8 * x.es.length≤s.l.length:=by
 have e:x=s.sta.1:=by rw[h]
 subst e
 have h0:=num_l2 8 s
 have h1:=num_l2 2 (s.num 8).2
 have h2:=mems_c ((s.num 8).2.num 2).1 ((s.num 8).2.num 2).2 []
 unfold Rst.sta
 simp only[]
 obtain ⟨m,hm⟩:∃m,m=memsL ((s.num 8).2.num 2).1 ((s.num 8).2.num 2).2 []:=⟨_,rfl⟩
 rw[←hm] at h2 ⊢
 simp only[List.length_nil,Nat.mul_zero,Nat.add_zero] at h2
 split
 ·simp only[List.length_nil,Nat.mul_zero,Nat.zero_le,and_self,and_true]
  omega
 ·have h3:=num_l2 2 m.2.1
  have h4:=some_c (c:=7) (one:=Rst.rcd) (fun s hb=>by have:=(rcd_dn hb).2;omega) rcd_l (m.2.1.num 2).1 (m.2.1.num 2).2 []
  obtain ⟨rs,hrs⟩:∃rs,rs=someL Rst.rcd (m.2.1.num 2).1 (m.2.1.num 2).2 []:=⟨_,rfl⟩
  rw[←hrs] at h4 ⊢
  have h5:=num_l2 2 rs.2
  have h6:=some_c (c:=11) (one:=Rst.shp) (fun s hb=>by have:=(shp_dn hb).2;omega) shp_l (rs.2.num 2).1 (rs.2.num 2).2 []
  obtain ⟨ss,hss⟩:∃ss,ss=someL Rst.shp (rs.2.num 2).1 (rs.2.num 2).2 []:=⟨_,rfl⟩
  rw[←hss] at h6 ⊢
  have h7:=num_l2 2 ss.2
  have h8:=take_l (ss.2.num 2).1 (ss.2.num 2).2
  have h9:=num_l2 4 ((ss.2.num 2).2.take (ss.2.num 2).1)
  have h10:=some_c (c:=8) (one:=Rst.evn) (fun s hb=>by have:=(evn_dn hb).2;omega) evn_l (((ss.2.num 2).2.take (ss.2.num 2).1).num 4).1 (((ss.2.num 2).2.take (ss.2.num 2).1).num 4).2 []
  simp only[List.length_nil,Nat.mul_zero,Nat.add_zero] at h4 h6 h10
  refine ⟨?_,?_,?_,?_⟩<;>simp only[]<;>omega
theorem num_read{s:Rst}{k:Nat}{x:Int}{r:List UInt8}(h:s.l=bs k x++r)(ho:NumOk k x)(hx:x≤4611686018427387903):∃s':Rst,s.num k=(x.toNat,s')∧s'.l=r∧s'.bad=s.bad:=by
 have hl:(bs k x).length=k:=bs_len k x
 have ht:s.l.take k=bs k x:=by rw[h,List.take_left' hl]
 have hd:s.l.drop k=r:=by rw[h,List.drop_left' hl]
 have hn:k≤s.l.length:=by rw[h,List.length_append,hl];omega
 have hv:beNat (s.l.take k)=x.toNat:=by rw[ht];exact beNat_toBE k _ ho.lt
 have e:s.long k=(x.toNat,⟨cutA s.A s.c k 1,s.c - k,r,s.bad⟩):=by
  unfold Rst.long Rst.take
  rw[if_pos hn,if_pos hn,hv,hd]
 refine ⟨⟨cutA s.A s.c k 1,s.c - k,r,s.bad⟩,?_,rfl,rfl⟩
 unfold Rst.num
 rw[e]
 have h0:=ho.1
 rw[if_neg (by simp only[];omega)]
theorem long_read{s:Rst}{n:Nat}{r:List UInt8}(h:s.l=toBE 8 n++r)(hn:n<18446744073709551616):∃s':Rst,s.long 8=(n,s')∧s'.l=r∧s'.bad=s.bad:=by
 have hl:(toBE 8 n).length=8:=toBE_len 8 n
 have ht:s.l.take 8=toBE 8 n:=by rw[h,List.take_left' hl]
 have hd:s.l.drop 8=r:=by rw[h,List.drop_left' hl]
 have hk:8≤s.l.length:=by rw[h,List.length_append,hl];omega
 have hv:beNat (s.l.take 8)=n:=by rw[ht];exact beNat_toBE 8 _ (pow8 hn)
 refine ⟨⟨cutA s.A s.c 8 1,s.c - 8,r,s.bad⟩,?_,rfl,rfl⟩
 unfold Rst.long Rst.take
 rw[if_pos hk,if_pos hk,hv,hd]
theorem toI{x:Int}(h:0≤x):((x.toNat:Nat):Int)=x:=Int.toNat_of_nonneg h
theorem le_of4{k:Nat}{x:Int}(h:NumOk k x)(hk:k≤4):x≤4611686018427387903:=by
 have h1:=h.2.1
 have h2:(256:Int) ^ k≤256 ^ 4:=by
  rcases (by omega:k=0∨k=1∨k=2∨k=3∨k=4) with rfl|rfl|rfl|rfl|rfl<;>decide
 have h3:(256:Int) ^ 4=4294967296:=rfl
 omega
theorem rcd_read{s:Rst}{x:Rcd}{r:List UInt8}(h:s.l=wB (recP x)++r)(ho:wOk (recP x)):∃s':Rst,s.rcd=(x,s')∧s'.l=r∧s'.bad=s.bad:=by
 have o0:NumOk 2 x.id:=ho (2,[x.id,x.x,x.y]) (by simp[recP]) _ (by simp)
 have o1:NumOk 2 x.x:=ho (2,[x.id,x.x,x.y]) (by simp[recP]) _ (by simp)
 have o2:NumOk 2 x.y:=ho (2,[x.id,x.x,x.y]) (by simp[recP]) _ (by simp)
 have o3:NumOk 1 x.label:=ho (1,[x.label]) (by simp[recP]) _ (by simp)
 simp only[wB,recP,List.flatMap_cons,List.flatMap_nil,List.append_nil,List.append_assoc] at h
 obtain ⟨s1,e1,l1,b1⟩:=num_read h o0 (le_of4 o0 (by decide))
 obtain ⟨s2,e2,l2,b2⟩:=num_read l1 o1 (le_of4 o1 (by decide))
 obtain ⟨s3,e3,l3,b3⟩:=num_read l2 o2 (le_of4 o2 (by decide))
 obtain ⟨s4,e4,l4,b4⟩:=num_read l3 o3 (le_of4 o3 (by decide))
 refine ⟨s4,?_,l4,by rw[b4,b3,b2,b1]⟩
 simp only[Rst.rcd,e1,e2,e3,e4,toI o0.1,toI o1.1,toI o2.1,toI o3.1]
theorem evn_read{s:Rst}{x:Evn}{r:List UInt8}(h:s.l=wB (evnP x)++r)(ho:wOk (evnP x)):∃s':Rst,s.evn=(x,s')∧s'.l=r∧s'.bad=s.bad:=by
 have o0:NumOk 2 x.user:=ho (2,[x.user]) (by simp[evnP]) _ (by simp)
 have o1:NumOk 1 x.op:=ho (1,[x.op,x.status]) (by simp[evnP]) _ (by simp)
 have o2:NumOk 1 x.status:=ho (1,[x.op,x.status]) (by simp[evnP]) _ (by simp)
 have o3:NumOk 4 x.tick:=ho (4,[x.tick]) (by simp[evnP]) _ (by simp)
 simp only[wB,evnP,List.flatMap_cons,List.flatMap_nil,List.append_nil,List.append_assoc] at h
 obtain ⟨s1,e1,l1,b1⟩:=num_read h o0 (le_of4 o0 (by decide))
 obtain ⟨s2,e2,l2,b2⟩:=num_read l1 o1 (le_of4 o1 (by decide))
 obtain ⟨s3,e3,l3,b3⟩:=num_read l2 o2 (le_of4 o2 (by decide))
 obtain ⟨s4,e4,l4,b4⟩:=num_read l3 o3 (le_of4 o3 (by decide))
 refine ⟨s4,?_,l4,by rw[b4,b3,b2,b1]⟩
 simp only[Rst.evn,e1,e2,e3,e4,toI o0.1,toI o1.1,toI o2.1,toI o3.1]
theorem shp_read{s:Rst}{x:Shp}{r:List UInt8}(h:s.l=wB (shpP x)++r)(ho:wOk (shpP x)):∃s':Rst,s.shp=(x,s')∧s'.l=r∧s'.bad=s.bad:=by
 have o0:NumOk 2 x.id:=ho (2,[x.id]) (by simp[shpP]) _ (by simp)
 have o1:NumOk 2 x.x0:=ho (2,[x.x0,x.y0,x.x1,x.y1]) (by simp[shpP]) _ (by simp)
 have o2:NumOk 2 x.y0:=ho (2,[x.x0,x.y0,x.x1,x.y1]) (by simp[shpP]) _ (by simp)
 have o3:NumOk 2 x.x1:=ho (2,[x.x0,x.y0,x.x1,x.y1]) (by simp[shpP]) _ (by simp)
 have o4:NumOk 2 x.y1:=ho (2,[x.x0,x.y0,x.x1,x.y1]) (by simp[shpP]) _ (by simp)
 have o5:NumOk 1 x.label:=ho (1,[x.label]) (by simp[shpP]) _ (by simp)
 simp only[wB,shpP,List.flatMap_cons,List.flatMap_nil,List.append_nil,List.append_assoc] at h
 obtain ⟨s1,e1,l1,b1⟩:=num_read h o0 (le_of4 o0 (by decide))
 obtain ⟨s2,e2,l2,b2⟩:=num_read l1 o1 (le_of4 o1 (by decide))
 obtain ⟨s3,e3,l3,b3⟩:=num_read l2 o2 (le_of4 o2 (by decide))
 obtain ⟨s4,e4,l4,b4⟩:=num_read l3 o3 (le_of4 o3 (by decide))
 obtain ⟨s5,e5,l5,b5⟩:=num_read l4 o4 (le_of4 o4 (by decide))
 obtain ⟨s6,e6,l6,b6⟩:=num_read l5 o5 (le_of4 o5 (by decide))
 refine ⟨s6,?_,l6,by rw[b6,b5,b4,b3,b2,b1]⟩
 simp only[Rst.shp,e1,e2,e3,e4,e5,e6,toI o0.1,toI o1.1,toI o2.1,toI o3.1,toI o4.1,toI o5.1]
theorem tik_read{s:Rst}{x:Tik}{r:List UInt8}(h:s.l=tikB x++r)(ho:TikOk x):∃s':Rst,s.tik=(x,s')∧s'.l=r∧s'.bad=s.bad:=by
 obtain ⟨ho,hs,hp⟩:=ho
 have o0:NumOk 1 x.g.ops:=ho (1,[x.g.ops,x.g.zoom,voidI x.g.void]) (by simp[tikP]) _ (by simp)
 have o1:NumOk 1 x.g.zoom:=ho (1,[x.g.ops,x.g.zoom,voidI x.g.void]) (by simp[tikP]) _ (by simp)
 have o2:NumOk 1 (voidI x.g.void):=ho (1,[x.g.ops,x.g.zoom,voidI x.g.void]) (by simp[tikP]) _ (by simp)
 have o3:NumOk 2 x.g.x0:=ho (2,[x.g.x0,x.g.y0,x.g.x1,x.g.y1]) (by simp[tikP]) _ (by simp)
 have o4:NumOk 2 x.g.y0:=ho (2,[x.g.x0,x.g.y0,x.g.x1,x.g.y1]) (by simp[tikP]) _ (by simp)
 have o5:NumOk 2 x.g.x1:=ho (2,[x.g.x0,x.g.y0,x.g.x1,x.g.y1]) (by simp[tikP]) _ (by simp)
 have o6:NumOk 2 x.g.y1:=ho (2,[x.g.x0,x.g.y0,x.g.x1,x.g.y1]) (by simp[tikP]) _ (by simp)
 have o7:NumOk 4 x.g.till:=ho (4,[x.g.till]) (by simp[tikP]) _ (by simp)
 simp only[tikB,wB,tikP,List.flatMap_cons,List.flatMap_nil,List.append_nil,List.append_assoc] at h
 obtain ⟨t1,f1,m1,c1⟩:=long_read h hs
 obtain ⟨t2,f2,m2,c2⟩:=long_read m1 hp
 obtain ⟨s1,e1,l1,b1⟩:=num_read m2 o0 (le_of4 o0 (by decide))
 obtain ⟨s2,e2,l2,b2⟩:=num_read l1 o1 (le_of4 o1 (by decide))
 obtain ⟨s3,e3,l3,b3⟩:=num_read l2 o2 (le_of4 o2 (by decide))
 have hv:(voidI x.g.void).toNat≤1∧decide ((voidI x.g.void).toNat=1)=x.g.void:=by
  unfold voidI
  cases x.g.void<;>decide
 obtain ⟨s4,e4,l4,b4⟩:=num_read (s:=⟨s3.A,s3.c,s3.l,s3.bad || decide (1<(voidI x.g.void).toNat)⟩) l3 o3 (le_of4 o3 (by decide))
 obtain ⟨s5,e5,l5,b5⟩:=num_read l4 o4 (le_of4 o4 (by decide))
 obtain ⟨s6,e6,l6,b6⟩:=num_read l5 o5 (le_of4 o5 (by decide))
 obtain ⟨s7,e7,l7,b7⟩:=num_read l6 o6 (le_of4 o6 (by decide))
 obtain ⟨s8,e8,l8,b8⟩:=num_read l7 o7 (le_of4 o7 (by decide))
 refine ⟨s8,?_,l8,?_⟩
 ·simp only[Rst.tik,f1,f2,e1,e2,e3,e4,e5,e6,e7,e8,toI o0.1,toI o1.1,toI o3.1,toI o4.1,toI o5.1,toI o6.1,toI o7.1,hv.2]
 ·rw[b8,b7,b6,b5,b4]
  simp only[]
  rw[decide_eq_false (by omega),Bool.or_false,b3,b2,b1,c2,c1]
theorem some_read{α:Type}{one:Rst→α×Rst}{enc:α→List UInt8}:∀(xs:List α) (s:Rst) (acc:List α) (r:List UInt8),(∀x∈xs,∀(s:Rst) (r:List UInt8),s.l=enc x++r→∃s':Rst,one s=(x,s')∧s'.l=r∧s'.bad=s.bad)→s.bad=false→s.l=xs.flatMap enc++r→∃s':Rst,someL one xs.length s acc=(acc++xs,s')∧s'.l=r∧s'.bad=false
 | [],s,acc,r,_,hb,h=>⟨s,by simp[someL],by simpa using h,hb⟩
 | x::xs,s,acc,r,h1,hb,h=>by
   rw[List.flatMap_cons,List.append_assoc] at h
   obtain ⟨s1,e1,l1,b1⟩:=h1 x (by simp) s _ h
   obtain ⟨s2,e2,l2,b2⟩:=some_read xs s1 (acc++[x]) r (fun y hy=>h1 y (by simp[hy])) (by rw[b1,hb]) l1
   refine ⟨s2,?_,l2,b2⟩
   rw[List.length_cons,someL,e1]
   simp only[]
   rw[if_neg (by rw[b1,hb];decide),e2,List.append_assoc]
   rfl
theorem mem_read{s:Rst}{m:Mem}{tk:List Tik}{r:List UInt8}(h:s.l=memB m tk++r)(hb:s.bad=false)(ho:MemOk m tk):∃s':Rst,s.mem=((m,tk),s')∧s'.l=r∧s'.bad=false:=by
 obtain ⟨ho,ha,h8,hk⟩:=ho
 have o0:NumOk 2 m.user:=ho (2,[m.user]) (by simp[memP]) _ (by simp)
 have o1:NumOk 1 m.role:=ho (1,[m.role,m.tier]) (by simp[memP]) _ (by simp)
 have o2:NumOk 1 m.tier:=ho (1,[m.role,m.tier]) (by simp[memP]) _ (by simp)
 have o3:NumOk 2 m.quota:=ho (2,[m.quota,m.k]) (by simp[memP]) _ (by simp)
 have o4:NumOk 2 m.k:=ho (2,[m.quota,m.k]) (by simp[memP]) _ (by simp)
 have o5:NumOk 1 (tk.length:Int):=⟨by omega,by rw[pw1];omega,by omega⟩
 simp only[memB,lenB,wB,memP,List.flatMap_cons,List.flatMap_nil,List.append_nil,List.append_assoc] at h
 obtain ⟨s1,e1,l1,b1⟩:=num_read h o0 (le_of4 o0 (by decide))
 obtain ⟨s2,e2,l2,b2⟩:=num_read l1 o1 (le_of4 o1 (by decide))
 obtain ⟨s3,e3,l3,b3⟩:=num_read l2 o2 (le_of4 o2 (by decide))
 obtain ⟨s4,e4,l4,b4⟩:=num_read l3 o3 (le_of4 o3 (by decide))
 obtain ⟨s5,e5,l5,b5⟩:=num_read l4 o4 (le_of4 o4 (by decide))
 obtain ⟨s6,e6,l6,b6⟩:=long_read l5 (by omega)
 obtain ⟨s7,e7,l7,b7⟩:=num_read l6 o5 (le_of4 o5 (by decide))
 obtain ⟨s8,e8,l8,b8⟩:=some_read (one:=Rst.tik) (enc:=tikB) tk s7 [] r (fun x hx s r h=>tik_read h (hk x hx)) (by rw[b7,b6,b5,b4,b3,b2,b1,hb]) l7
 refine ⟨s8,?_,l8,b8⟩
 rw[Int.toNat_natCast] at e7
 simp only[Rst.mem,e1,e2,e3,e4,e5,e6,e7,e8,toI o0.1,toI o1.1,toI o2.1,toI o3.1,toI o4.1,toI ha.1,List.nil_append]
theorem mems_read:∀(ps:List (Mem×List Tik)) (s:Rst) (acc:List (Mem×List Tik)) (r:List UInt8),(∀p∈ps,MemOk p.1 p.2)→s.bad=false→s.l=ps.flatMap (fun p=>memB p.1 p.2)++r→∃s':Rst,memsL ps.length s acc=(acc++ps,s',false)∧s'.l=r∧s'.bad=false
 | [],s,acc,r,_,hb,h=>⟨s,by simp[memsL],by simpa using h,hb⟩
 | x::xs,s,acc,r,h1,hb,h=>by
   rw[List.flatMap_cons,List.append_assoc] at h
   obtain ⟨s1,e1,l1,b1⟩:=mem_read h hb (h1 x (by simp))
   obtain ⟨s2,e2,l2,b2⟩:=mems_read xs s1 (acc++[x]) r (fun y hy=>h1 y (by simp[hy])) b1 l1
   refine ⟨s2,?_,l2,b2⟩
   rw[List.length_cons,memsL,e1]
   simp only[]
   rw[if_neg (by rw[b1];decide)]
   show memsL xs.length s1 (acc++[x])=_
   rw[e2,List.append_assoc]
   rfl
structure SameS(q:Sta)(tk:List TkS)(q':Sta)(tk':List TkS):Prop where
 ms:q'.ms=q.ms
 tk:tk'.map TkS.l=tk.map TkS.l
 rs:q'.rs=q.rs
 ss:q'.ss=q.ss
 es:q'.es=q.es
 tx:q'.tx=q.tx
 past:q'.past=q.past
theorem all_l{p:List Tik→Bool}(tk:List TkS):(tk.all fun x=>p x.l)=(tk.map TkS.l).all p:=by
 rw[List.all_map]
 rfl
theorem impOk_same{q q':Sta}{tk tk':List TkS}(h:SameS q tk q' tk')(hn:q.nt=tk.length)(hn':q'.nt=tk'.length):impOk q' tk'=impOk q tk:=by
 have e:q'.nt=q.nt:=by
  rw[hn,hn']
  have:=congrArg List.length h.tk
  simpa using this
 unfold impOk Sta.sound Sta.listed Sta.us Sta.rids Sta.sids Sta.s
 rw[h.ms,h.rs,h.ss,h.es,h.tx,h.past,e,all_l (p:=fun l=>(tikFrom l).isSome) tk',all_l (p:=fun l=>(tikFrom l).isSome) tk,h.tk]
theorem mems_l(ms:List Mem)(tk:List TkS):memsB ms tk=(ms.zip (tk.map TkS.l)).flatMap fun p=>memB p.1 p.2:=by
 unfold memsB
 rw[List.zip_map_right,List.flatMap_map]
 rfl
theorem staB_same{q q':Sta}{tk tk':List TkS}(h:SameS q tk q' tk'):staB q' tk'=staB q tk:=by
 unfold staB preB headB Sta.s
 rw[mems_l,mems_l,h.ms,h.rs,h.ss,h.es,h.tx,h.past,h.tk]
theorem txt_read{s:Rst}{t r:List UInt8}(h:s.l=t++r):s.txt t.length=t∧(s.take t.length).l=r∧(s.take t.length).bad=s.bad:=by
 have hn:t.length≤s.l.length:=by rw[h,List.length_append];omega
 unfold Rst.txt Rst.take
 rw[if_pos hn,if_pos hn]
 exact ⟨by rw[h,List.take_left],by simp only[];rw[h,List.drop_left],rfl⟩
theorem sta_read{s:Rst}{q:Sta}{tk:List TkS}(h:s.l=staB q tk)(hb:s.bad=false)(ho:StOk q tk)(hp:q.past≤4611686018427387903):∃s':Rst,s.sta=(⟨q.ms.zip (tk.map TkS.l),q.rs,q.ss,q.s,q.es,q.past.toNat⟩,s')∧s'.bad=false:=by
 have htl:=ho.tl
 have hzl:(q.ms.zip (tk.map TkS.l)).length=q.ms.length:=by rw[List.length_zip,List.length_map];omega
 have n1:=num2 ho.ml
 have n2:=num2 ho.rl
 have n3:=num2 ho.sl
 have n4:=num2 ho.xl
 have n5:=num4 ho.el
 unfold staB preB headB at h
 rw[mems_l] at h
 simp only[lenB,recsB,shpsB,evnsB,List.flatMap_cons,List.flatMap_nil,List.append_nil,List.append_assoc] at h
 obtain ⟨s1,e1,l1,b1⟩:=num_read h ho.past hp
 obtain ⟨s2,e2,l2,b2⟩:=num_read l1 n1 (le_of4 n1 (by decide))
 rw[←hzl] at e2
 obtain ⟨s3,e3,l3,b3⟩:=mems_read (q.ms.zip (tk.map TkS.l)) s2 [] _ (fun p hp=>by
  obtain ⟨i,hi,e⟩:=List.getElem_of_mem hp
  rw[List.length_zip,List.length_map] at hi
  rw[←e,List.getElem_zip,List.getElem_map]
  exact ho.ms i (by omega) (by omega)) (by rw[b2,b1,hb]) l2
 obtain ⟨s4,e4,l4,b4⟩:=num_read l3 n2 (le_of4 n2 (by decide))
 obtain ⟨s5,e5,l5,b5⟩:=some_read (one:=Rst.rcd) q.rs s4 [] _ (fun x hx s r h=>rcd_read h (ho.rs x hx)) (by rw[b4,b3]) l4
 obtain ⟨s6,e6,l6,b6⟩:=num_read l5 n3 (le_of4 n3 (by decide))
 obtain ⟨s7,e7,l7,b7⟩:=some_read (one:=Rst.shp) q.ss s6 [] _ (fun x hx s r h=>shp_read h (ho.ss x hx)) (by rw[b6,b5]) l6
 obtain ⟨s8,e8,l8,b8⟩:=num_read l7 n4 (le_of4 n4 (by decide))
 obtain ⟨t1,t2,t3⟩:=txt_read l8
 obtain ⟨s9,e9,l9,b9⟩:=num_read t2 n5 (le_of4 n5 (by decide))
 obtain ⟨s10,e10,l10,b10⟩:=some_read (one:=Rst.evn) q.es s9 [] _ (fun x hx s r h=>evn_read h (ho.es x hx)) (by rw[b9,t3,b8,b7]) l9
 refine ⟨s10,?_,b10⟩
 rw[Int.toNat_natCast] at e2 e4 e6 e8 e9
 simp only[Rst.sta,e1,e2,e3,e4,e5,e6,e7,e8,e9,e10,t1,List.nil_append]
 rfl
theorem same_of{q q':Sta}{tk tk':List TkS}(ho:StOk q tk)(h:StaOf ⟨q.ms.zip (tk.map TkS.l),q.rs,q.ss,q.s,q.es,q.past.toNat⟩ q' tk'):SameS q tk q' tk' where
 ms:=by
  rw[h.ms]
  exact List.map_fst_zip (by rw[List.length_map];have:=ho.tl;omega)
 tk:=by
  rw[h.tk]
  exact List.map_snd_zip (by rw[List.length_map];have:=ho.tl;omega)
 rs:=h.rs
 ss:=h.ss
 es:=h.es
 tx:=h.tx
 past:=by rw[h.past];exact toI ho.past.1
abbrev byV(b:UInt8):Value:=.int .u8 (b.toNat:Int)
theorem eq_step{l m:List UInt8}{k:Nat}(h:l.length=m.length)(hk:k<l.length)(hk2:k<m.length):decide (l.drop k=m.drop k)=(decide (l[k]=m[k])&&decide (l.drop (k+1)=m.drop (k+1))):=by
 rw[Bool.eq_iff_iff,Bool.and_eq_true,decide_eq_true_iff,decide_eq_true_iff,decide_eq_true_iff,List.drop_eq_getElem_cons hk,List.drop_eq_getElem_cons hk2,List.cons.injEq]
theorem sequalB{R1 R2:Res}{A B:Option Addr}{c d:Nat}{l m:List UInt8}(hl:RdV Tryz.prog R1 tBy 1 A byV l)(hm:RdV Tryz.prog R2 tBy 1 B byV m)(hn:l.length≤1000000000):CP [] 40 [.lit (.slice A l.length c),.lit (.slice B m.length d)] [.res R1,.res R2] (fun v H'=>v=bA (decide (l=m))∧∃G,H'=.res R1::.res R2::G):=by
 refine fn_ok ev_ok rfl ?_
 repeat' ((conv=>whnf);with_reducible apply brP_of<;>intro _)
 all_goals (try conv=>whnf)
 ·rename_i hx
  have hne:l.length≠m.length:=fun e=>by rw[e] at hx;simp at hx
  refine ⟨bA_eq (decide_eq_false fun e=>hne (by rw[e])).symm,[],rfl⟩
 ·rename_i hx
  have hlm:l.length=m.length:=by
   have:=bne_eq_false_iff_eq.1 hx
   omega
  refine loopP ev_ok rfl (fun k:Nat=>[(0,.lit (.slice A l.length c)),(1,.lit (.slice B m.length d)),(12,iA l.length),(13,iA (k:Nat))]) (fun _=>[.res R1,.res R2]) (fun k=>k≤l.length∧decide (l=m)=decide (l.drop k=m.drop k)) (fun k=>l.length - k) 0 ⟨Nat.zero_le _,rfl⟩ [0,1] ?_ ?_
  ·exact ⟨rfl,⟨⟨rfl,rfl⟩,⟨rfl,rfl⟩,⟨rfl,rfl⟩,⟨rfl,rfl⟩,tU⟩,⟨⟨_,rfl,kp⟩,⟨_,rfl,kp⟩,tU⟩⟩
  ·rintro k ⟨hk0,hr⟩
   by_cases hk:k<l.length
   ·have hk2:k<m.length:=by omega
    obtain ⟨a,rfl,hrd1⟩:=hl.at hk
    obtain ⟨b,rfl,hrd2⟩:=hm.at hk2
    rw[eq_step hlm hk hk2] at hr
    conv=>whnf
    refine brP_of (fun _=>?_) (noF hk)
    repeat' ((conv=>whnf);first|with_reducible apply brP_of<;>intro _|refine WpS.tail ev_ok 8 rfl (by kernel_rfl) ?_|refine RdP.idxL ev_ok rfl rfl rfl rfl rfl hk ?_|refine RdP.idxL ev_ok rfl rfl rfl rfl rfl hk2 ?_|refine RdP.loadR (i:=0) (v:=.lit (byV l[k])) rfl (fun w S hR=>hrd1 w S hR k hk) rfl rfl ?_|refine RdP.loadR (i:=1) (v:=.lit (byV m[k])) rfl (fun w S hR=>hrd2 w S hR k hk2) rfl rfl ?_|refine RdP.pure ev_ok rfl ?_|refine RdP.read ev_ok rfl ?_)
    all_goals (try conv=>whnf)
    ·rename_i hy
     have hne:l[k]≠m[k]:=fun e=>by rw[e] at hy;simp at hy
     exact ⟨bA_eq (by rw[hr,decide_eq_false hne];rfl),[],rfl⟩
    ·rename_i hy
     have he:l[k]=m[k]:=by
      have h1:=bne_eq_false_iff_eq.1 hy
      have h2:l[k].toNat=m[k].toNat:=by omega
      exact UInt8.toNat.inj h2
     rw[decide_eq_true he,Bool.true_and] at hr
     exact ⟨k+1,[0,1],⟨⟨hk,hr⟩,by omega⟩,rfl,⟨⟨rfl,rfl⟩,⟨rfl,rfl⟩,⟨rfl,rfl⟩,⟨rfl,subInt rfl (wrap_in (by omega) (by omega))⟩,tU⟩,⟨⟨_,rfl,kp⟩,⟨_,rfl,kp⟩,tU⟩⟩
   ·obtain rfl:k=l.length:=by omega
    conv=>whnf
    refine brP_of (noT hk) (fun _=>?_)
    repeat' ((conv=>whnf);with_reducible apply brP_of<;>intro _)
    all_goals (try conv=>whnf)
    rw[List.drop_length,hlm,List.drop_length] at hr
    exact ⟨bA_eq (by rw[hr];rfl),[],rfl⟩
def StaX.q(x:StaX):Sta:=⟨x.ms.map (·.1),x.ms.length,x.rs,x.ss,⟨x.tx.toArray⟩,x.es,x.past,none,none,none,none,none,0,0,0,0,0⟩
def StaX.tk(x:StaX):List TkS:=x.ms.map fun m=>⟨none,0,m.2⟩
theorem same_x{x:StaX}{q:Sta}{tk:List TkS}(h:StaOf x q tk):SameS x.q x.tk q tk where
 ms:=h.ms
 tk:=by
  rw[h.tk]
  unfold StaX.tk
  rw[List.map_map]
  rfl
 rs:=h.rs
 ss:=h.ss
 es:=h.es
 tx:=h.tx
 past:=h.past
theorem x_nt(x:StaX):x.q.nt=x.tk.length:=by
 unfold StaX.tk
 rw[List.length_map]
 rfl
theorem lens_of{s s':Rst}{x:StaX}{q:Sta}{tk:List TkS}(e:s.sta=(x,s'))(h:StaOf x q tk)(hl:s.l.length≤65536):(q.ms.length≤60000∧q.rs.length≤60000∧q.ss.length≤60000∧q.es.length≤60000)∧∀m∈q.ms,0≤m.area∧m.area<18446744073709551616:=by
 obtain ⟨h1,h2,h3,h4⟩:=sta_c e
 refine ⟨⟨?_,?_,?_,?_⟩,fun m hm=>?_⟩
 ·rw[h.ms,List.length_map];omega
 ·rw[h.rs];omega
 ·rw[h.ss];omega
 ·rw[h.es];omega
 ·rw[h.ms] at hm
  obtain ⟨p,hp,rfl⟩:=List.mem_map.1 hm
  exact sta_a e p hp
def DecOk(s:Rst):Prop:=s.sta.2.bad=false∧impOk s.sta.1.q s.sta.1.tk=true∧staB s.sta.1.q s.sta.1.tk=s.l
def zeroS:List AV:=[.lit nilV,.lit nilV,.lit nilV,.lit nilV,.lit (.string ⟨#[]⟩),.lit nilV,iA 0]
def DecPost(R:Res)(s:Rst)(v:AV)(H':List AObj):Prop:=
 (65536<s.l.length∧v=.tuple [.agg zeroS,iA 2]∧∃G,H'=.res R::G) ∨
 (s.l.length≤65536∧¬DecOk s∧v=.tuple [.agg zeroS,iA 61]∧∃G,H'=.res R::G) ∨
 (s.l.length≤65536∧DecOk s∧∃q tk RR,StaOf s.sta.1 q tk∧q.Rd RR∧q.Tk RR tk∧v=.tuple [.agg q.a,iA 0]∧∃G1 G2 G,H'=.res R::G1::G2::.res RR::G)
theorem own_byv{A:Addr}{n:Nat}{l:List UInt8}:RdV Tryz.prog (OwnR byC 1 tBy (.slice (some A) l.length n) l) tBy 1 (some A) byV l:=fun hne=>by
 by_cases hw:∃w S,(OwnR byC 1 tBy (.slice (some A) l.length n) l).at_ w S
 ·exact own_by hw hne
 ·exact ⟨A,rfl,fun w S h=>absurd ⟨w,S,h⟩ hw⟩
theorem by_rdv{R:Res}{oa:Option Addr}{c:Nat}{l:List UInt8}{b:Bool}(h:(⟨oa,c,l,b⟩:Rst).Ok R):RdV Tryz.prog R tBy 1 oa byV l:=by
 cases oa with
 | none=>
   obtain rfl:=(h.nil rfl).1
   exact RdV.nil
 | some a=>
   obtain ⟨b,off,rfl,hb⟩:=h.lie a rfl
   exact RdV.cells ev_ok byty_ok fun _=>⟨b,off,rfl,fun w S hw=>by
    rw[←by_map]
    exact hb.lay w S hw⟩
theorem rdecode{R:Res}{oa:Option Addr}{c:Nat}{l:List UInt8}(h:(⟨oa,c,l,false⟩:Rst).Ok R):CP [] 15 [.lit (.slice oa l.length c)] [.res R] (DecPost R ⟨oa,c,l,false⟩):=by
 have hby:=by_rdv h
 refine fn_ok ev_ok rfl ?_
 refine FnW.of rfl rfl ?_
 refine WpC.seqG fun F hF=>?_
 repeat' ((conv=>whnf);first|(show F _ _ _;subst hF;refine WpC.seqG fun F hF=>?_)|(show F _ _ _;subst hF))
 conv=>whnf
 refine brP_of (fun hl=>?_) (fun hl=>?_)
 ·have hl:=of_decide_eq_true hl
  repeat' ((conv=>whnf);first|(show F _ _ _;subst hF;refine WpC.seqG fun F hF=>?_)|(show F _ _ _;subst hF))
  all_goals (try conv=>whnf)
  exact .inl ⟨by show 65536<l.length;omega,rfl,_,rfl⟩
 have hl:l.length≤65536:=by
  have:=of_decide_eq_false hl
  omega
 repeat' ((conv=>whnf);first|(show F _ _ _;subst hF;refine WpC.seqG fun F hF=>?_)|(show F _ _ _;subst hF))
 conv=>whnf
 refine (rstate h (by show l.length≤_;omega)).use [2,0] rfl rfl ⟨⟨_,rfl,rfl⟩,⟨_,rfl,kp⟩,tU⟩ ?_
 rintro _ _ ⟨x,s',q,tk,RR,G,e1,h1,hg,rfl,rfl⟩
 refine ⟨[2],?_⟩
 repeat' ((conv=>whnf);first|(show F _ _ _;subst hF;refine WpC.seqG fun F hF=>?_)|(show F _ _ _;subst hF))
 conv=>whnf
 refine brP_of (fun hb=>?_) (fun hb=>?_)
 ·repeat' ((conv=>whnf);first|(show F _ _ _;subst hF;refine WpC.seqG fun F hF=>?_)|(show F _ _ _;subst hF))
  all_goals (try conv=>whnf)
  exact .inr (.inl ⟨hl,(fun hd=>by have:=hd.1;rw[e1] at this;simp only[] at this;rw[hb] at this;cases this),rfl,_,rfl⟩)
 obtain ⟨hst,hrd,htk⟩:=hg hb
 obtain ⟨⟨l0,l1,l2,l3⟩,hA⟩:=lens_of e1 hst hl
 have hsx:=same_x hst
 have hi:impOk q tk=impOk x.q x.tk:=impOk_same hsx (x_nt x) htk.nt
 have hB:staB q tk=staB x.q x.tk:=staB_same hsx
 have hdo:DecOk ⟨oa,c,l,false⟩↔impOk q tk=true∧staB q tk=l:=by
  unfold DecOk
  rw[e1,hi,hB]
  simp only[hb,true_and]
 repeat' ((conv=>whnf);first|(show F _ _ _;subst hF;refine WpC.seqG fun F hF=>?_)|(show F _ _ _;subst hF))
 conv=>whnf
 refine (sencode hrd htk l0 l1 l2 l3 (fun hi=>stOk_of htk l0 l1 l2 l3 hA hi)).use [3] rfl rfl ⟨⟨_,rfl,kp⟩,tU⟩ ?_
 rintro _ _ (⟨i1,rfl,G2,rfl⟩|⟨i1,i2,rfl,G2,rfl⟩|⟨i1,i2,A,n,rfl,Ga,Gb,G2,rfl⟩)
 ·refine ⟨[],?_⟩
  repeat' ((conv=>whnf);first|(show F _ _ _;subst hF;refine WpC.seqG fun F hF=>?_)|(show F _ _ _;subst hF))
  all_goals (try conv=>whnf)
  exact .inr (.inl ⟨hl,(fun hd=>by have:=(hdo.1 hd).1;rw[i1] at this;cases this),rfl,_,rfl⟩)
 ·refine ⟨[],?_⟩
  repeat' ((conv=>whnf);first|(show F _ _ _;subst hF;refine WpC.seqG fun F hF=>?_)|(show F _ _ _;subst hF))
  all_goals (try conv=>whnf)
  exact .inr (.inl ⟨hl,(fun hd=>by have:=(hdo.1 hd).2;rw[this] at i2;omega),rfl,_,rfl⟩)
 ·obtain ⟨d,hd⟩:∃d,d=staB q tk:=⟨_,rfl⟩
  rw[←hd] at i2 hdo ⊢
  refine ⟨[3],?_⟩
  repeat' ((conv=>whnf);first|(show F _ _ _;subst hF;refine WpC.seqG fun F hF=>?_)|(show F _ _ _;subst hF))
  conv=>whnf
  refine (sequalB (c:=n) (d:=c) (own_byv (A:=A) (n:=n) (l:=d)) hby (by omega)).use [5,0] rfl rfl ⟨⟨_,rfl,kp⟩,⟨_,rfl,kp⟩,tU⟩ ?_
  rintro _ _ ⟨rfl,G3,rfl⟩
  refine ⟨[],?_⟩
  conv=>whnf
  refine brP_of (fun hq=>?_) (fun hq=>?_)
  ·have hq:=of_decide_eq_true hq
   repeat' ((conv=>whnf);first|(show F _ _ _;subst hF;refine WpC.seqG fun F hF=>?_)|(show F _ _ _;subst hF))
   all_goals (try conv=>whnf)
   have hst2:StaOf (Rst.sta ⟨oa,c,l,false⟩).1 q tk:=by rw[e1];exact hst
   have hd:=hdo.2 ⟨i1,hq⟩
   clear hdo hq hsx hB hi
   refine .inr (.inr ⟨hl,hd,q,tk,RR,hst2,hrd,htk,?_,?_⟩)
   ·rfl
   ·exact ⟨_,_,_,rfl⟩
  ·have hq:=of_decide_eq_false hq
   repeat' ((conv=>whnf);first|(show F _ _ _;subst hF;refine WpC.seqG fun F hF=>?_)|(show F _ _ _;subst hF))
   all_goals (try conv=>whnf)
   exact .inr (.inl ⟨hl,fun hd=>hq (hdo.1 hd).2,rfl,_,rfl⟩)
end Go.Proofs.YtmbdghclhpboaaaGreat
