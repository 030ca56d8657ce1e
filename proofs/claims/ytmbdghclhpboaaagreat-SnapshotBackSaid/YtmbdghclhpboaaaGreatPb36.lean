/- Part of the proof: Tn Tn2 Snw. Conditions: as each states. -/
import Derived.Test.YtmbdghclhpboaaaGreatPb35
set_option linter.all false
set_option maxRecDepth 100000
namespace Go.Proofs.YtmbdghclhpboaaaGreat
open Ev
abbrev tTn:TypeId:=127
abbrev paL(a:Addr):AV:=.lit (.pointer (some a))
abbrev paV(x:Addr):Value:=.pointer (some x)
def tabsR(tb:List (Addr×List Tik)):Res:=Res.star (tb.map fun t=>tabR t.1 t.2)
structure Tn where
 ros:Addr
 pts:Addr
 cqs:Addr
 grt:Addr
 pyr:Addr
 trl:Addr
 M:List (Int×Mem)
 ts:List (Int×Addr)
 tb:List (Addr×List Tik)
 ns:List PN
 PB:List (Int×Rcd)
 T:QT
 CB:List (Int×Shp)
 ys:List Rue
 np:List (Value×List Bx)
 Ms:Nat→List (Int×Int)
 es:List Evn
 past:Int
 text:ByteArray
def tnC(t:Tn):AObj:=.cells [paL t.ros,.map 1,paL t.pts,paL t.cqs,paL t.grt,paL t.pyr,paL t.trl,.lit (.string t.text)] tTn
theorem tnewA:CP [] 132 [] [] (fun v H'=>∃a,v=paL a∧H'=[.res (tabR a [])]):=by
 refine CallS.lower (K':=fun v H'=>v=.ptr 0 0∧∃G,H'=tabH [] 0++G) ?_ ?_
 ·refine fn_ok ev_ok rfl ?_
  repeat' ((conv=>whnf);with_reducible apply brP_of<;>intro _)
  all_goals (try conv=>whnf)
  exact ⟨rfl,[],rfl⟩
 ·rintro _ _ ⟨rfl,G,rfl⟩
  exact ⟨[],[0],0,0,tabH [] 0,[],⟨rfl,rfl,tU,⟨⟨_,rfl,rfl⟩,tU⟩,Ent.picks _ [none] rfl,fun _=>rfl⟩,rfl,fun a=>⟨a,rfl,rfl⟩⟩
theorem gnew0:CP [] 50 [.lit nilV] [] (fun v H'=>∃a ys np G1 G2,v=.tuple [paL a,iA 0]∧GrI [] ys np∧H'=[G1,G2,.res (grtR a ys np)]):=by
 refine CallS.pre (Pre.more (R:=boxPool []) rfl (Ent.snocE pool_zero _)) ?_
 refine CallS.pre (Pre.more (R:=OwnR ruC 7 tRu nilV []) rfl (Ent.snocE own_ru _)) ?_
 refine CallS.mono (gnew (pl:=[]) (A:=none) (m:=0) (rs:=[]) (fun y hy=>by simp at hy) (by decide)) ?_
 rintro v H' (⟨_,a,ys,np,rfl,hi,rfl⟩|⟨h,_⟩)
 ·exact ⟨a,ys,np,_,_,rfl,hi,rfl⟩
 ·simp at h
structure TnNew(t:Tn):Prop where
 M:t.M=[(0,⟨0,0,0,65535,0,0⟩)]
 ts:∃a,t.ts=[(0,a)]∧t.tb=[(a,[])]
 ns:t.ns=[PN.leaf ⟨0,0,0⟩]∧t.PB=[]
 cq:CqI t.T∧t.CB=[]
 gr:GrI [] t.ys t.np
 tr:t.es=[]∧t.past=0
def frH(t:Tn):List AObj:=[.res (ptR t.pts t.ns t.PB),.res (grtR t.grt t.ys t.np),.res (rosR t.ros t.M),.mrow (mE iK paV t.ts),.res (tabsR t.tb),.res (cqR t.cqs t.T t.CB),.res (pyrR t.pyr t.Ms),.res (trR t.trl t.es t.past),.cells [paL t.ros,.map 3,paL t.pts,paL t.cqs,paL t.grt,paL t.pyr,paL t.trl,.lit (.string t.text)] tTn]
theorem tabs_one{a:Addr}{l:List Tik}(w:World)(S:Nat→Prop)(h:(tabR a l).at_ w S):(tabsR [(a,l)]).at_ w S:=⟨S,fun _=>False,h,fun _ h=>h,fun _ _ h=>h,fun b=>by simp⟩
theorem tfresh:CP [] 51 [] [] (fun v H'=>v=.ptr 8 0∧∃t,TnNew t∧H'=frH t):=by
 refine CallS.post (K:=fun v H'=>v=.ptr 8 0∧∃t a,TnNew t∧(t.ts=[(0,a)]∧t.tb=[(a,[])])∧H'=[.res (ptR t.pts t.ns t.PB),.res (grtR t.grt t.ys t.np),.res (rosR t.ros t.M),.mrow (mE iK paV t.ts),.res (tabR a []),.res (cqR t.cqs t.T t.CB),.res (pyrR t.pyr t.Ms),.res (trR t.trl t.es t.past),.cells [paL t.ros,.map 3,paL t.pts,paL t.cqs,paL t.grt,paL t.pyr,paL t.trl,.lit (.string t.text)] tTn]) ?_ ?_
 ·refine CallS.wk (K:=fun v H'=>v=.ptr 8 0∧∃t a,TnNew t∧(t.ts=[(0,a)]∧t.tb=[(a,[])])∧H'=[.res (ptR t.pts t.ns t.PB),.res (grtR t.grt t.ys t.np),.res (rosR t.ros t.M),.map [(iA 0,paL a,0)] 1,.res (tabR a []),.res (cqR t.cqs t.T t.CB),.res (pyrR t.pyr t.Ms),.res (trR t.trl t.es t.past),.cells [paL t.ros,.map 3,paL t.pts,paL t.cqs,paL t.grt,paL t.pyr,paL t.trl,.lit (.string t.text)] tTn]) ?_ ?_
  ·refine fn_ok ev_ok rfl ?_
   repeat' ((conv=>whnf);first|with_reducible apply brP_of<;>intro _|(refine ptnew.use [] rfl rfl trivial ?_;rintro _ _ ⟨a1,rfl,rfl⟩;refine ⟨[0],?_⟩)|(refine gnew0.use [] rfl rfl trivial ?_;rintro _ _ ⟨a2,ys,np,G1,G2,rfl,hi,rfl⟩;refine ⟨[2],?_⟩)|(refine rnewR.use [] rfl rfl trivial ?_;rintro _ _ ⟨a3,rfl,rfl⟩;refine ⟨[0],?_⟩)|(refine tnewA.use [] rfl rfl trivial ?_;rintro _ _ ⟨a4,rfl,rfl⟩;refine ⟨[0],?_⟩)|refine OpP.madd (.inr rfl) rfl rfl rfl rfl rfl rfl rfl rfl rfl ?_|(refine cqnew.use [] rfl rfl trivial ?_;rintro _ _ ⟨a5,T,rfl,rfl,hT⟩;refine ⟨[0],?_⟩)|(refine pnewR.use [] rfl rfl trivial ?_;rintro _ _ ⟨a6,rfl,rfl⟩;refine ⟨[0],?_⟩)|(refine anew.use [] rfl rfl trivial ?_;rintro _ _ ⟨a7,rfl,rfl⟩;refine ⟨[0],?_⟩))
   all_goals (try conv=>whnf)
   exact ⟨rfl,⟨a3,a1,a5,a2,a6,a7,[(0,⟨0,0,0,65535,0,0⟩)],[(0,a4)],[(a4,[])],[PN.leaf ⟨0,0,0⟩],[],T,[],ys,np,fun _=>[],[],0,⟨#[]⟩⟩,a4,⟨rfl,⟨a4,rfl,rfl⟩,⟨rfl,rfl⟩,⟨hT,rfl⟩,hi,⟨rfl,rfl⟩⟩,⟨rfl,rfl⟩,rfl⟩
  ·rintro _ _ ⟨rfl,t,a,h,ha,rfl⟩
   refine ⟨_,.same (.same (.same (.map (fs:=mE iK paV t.ts) (by rw[ha.1];rfl) rfl (by rw[ha.1];simp[mE]) (.same (.same (.same (.same (.same .nil)))))))),rfl,t,a,h,ha,rfl⟩
 ·rintro _ _ ⟨rfl,t,a,h,ha,rfl⟩
  refine ⟨frH t,Pre.same rfl ?_,rfl,t,h,rfl⟩
  show Ent (_::_::_::_::_::_) (_::_::_::_::_::_)
  refine .cons _ (.cons _ (.cons _ (.cons _ (.imp fun w S h=>?_))))
  rw[ha.2]
  exact tabs_one w S h
theorem tabs_snoc{tb:List (Addr×List Tik)}{a:Addr}{l:List Tik}(w:World)(S1 S2:Nat→Prop)(h1:(tabsR tb).at_ w S1)(h2:(tabR a l).at_ w S2)(hd:∀b,S1 b→S2 b→False):(tabsR (tb++[(a,l)])).at_ w (fun b=>S1 b∨S2 b):=by
 show stars ((tb++[(a,l)]).map fun t=>tabR t.1 t.2) w _
 rw[List.map_append]
 exact stars_append.2 ⟨S1,S2,h1,⟨S2,fun _=>False,h2,fun _ h=>h,fun _ _ h=>h,fun b=>by simp⟩,hd,fun b=>Iff.rfl⟩
theorem tfromT{R:Res}{oa:Option Addr}{c:Nat}{l:List Tik}{tb:List (Addr×List Tik)}(hx:RdV Tryz.prog R 96 10 oa tikV l)(hb:∀k∈l,k.secret<18446744073709551616∧k.parent<18446744073709551616) :
  CP [] 136 [.lit (.slice oa l.length c)] [.res R,.res (tabsR tb)] (fun v H'=>∃e a tb' G,v=.tuple [.lit (.pointer a),iA (e:Nat)]∧(e=0↔(tikFrom l).isSome=true)∧(e=0→∃a',a=some a'∧tb'=tb++[(a',l)])∧H'=.res R::.res (tabsR tb')::G):=by
 have h1:=tfromA (c:=c) hx hb
 refine CallS.post (K:=fun v H'=>match tikFrom l with
   | some _=>∃a,v=.tuple [.lit (.pointer (some a)),iA 0]∧H'=[.res R,.res (tabsR tb),.res (tabR a l)]
   | none=>v=.tuple [.lit (.pointer none),iA 1]∧∃G,H'=.res R::.res (tabsR tb)::G) ?_ ?_
 ·refine h1.use [0] rfl rfl ⟨⟨_,rfl,kp⟩,tU⟩ ?_
  intro v H' h
  cases hf:tikFrom l with
  | none=>
    rw[hf] at h
    obtain ⟨rfl,G,rfl⟩:=h
    refine ⟨[],?_⟩
    conv=>whnf
    exact ⟨rfl,[],rfl⟩
  | some q=>
    rw[hf] at h
    obtain ⟨a,rfl,rfl⟩:=h
    refine ⟨[1],?_⟩
    conv=>whnf
    exact ⟨a,rfl,rfl⟩
 ·intro v H' h
  cases hf:tikFrom l with
  | none=>
    rw[hf] at h
    obtain ⟨rfl,G,rfl⟩:=h
    exact ⟨_,Pre.same rfl (.refl _),1,none,tb,G,rfl,by simp,fun h=>by simp at h,rfl⟩
  | some q=>
    rw[hf] at h
    obtain ⟨a,rfl,rfl⟩:=h
    exact ⟨[.res R,.res (tabsR (tb++[(a,l)])),.res resNil],Pre.same rfl ((Ent.merge (i:=1) (j:=2) rfl rfl rfl tabs_snoc).trans (.of_eq rfl)),0,some a,_,_,rfl,by simp,fun _=>⟨a,rfl,rfl⟩,rfl⟩
structure TkS where
 oa:Option Addr
 c:Nat
 l:List Tik
def tkV(x:TkS):Value:=.slice x.oa x.l.length x.c
structure Sta.Tk(R:Res)(q:Sta)(tk:List TkS):Prop where
 nt:q.nt=tk.length
 rd:RdV Tryz.prog R 52 1 q.ot tkV tk
 el:∀x∈tk,RdV Tryz.prog R 96 10 x.oa tikV x.l
 bd:∀x∈tk,∀k∈x.l,k.secret<18446744073709551616∧k.parent<18446744073709551616
def takeM1(m:Mem)(M:List (Int×Mem)):List (Int×Mem):=
 if m.user=0 then M
 else if m.k=0∧m.area=0 then enrolM M { m with k:=0,area:=0 } else (profM m.user m.k m.area (enrolM M { m with k:=0,area:=0 })).2
def takeM(ms:List Mem)(M:List (Int×Mem)):List (Int×Mem):=ms.foldl (fun M m=>takeM1 m M) M
def putT(xs:List (Int×Addr))(ts:List (Int×Addr)):List (Int×Addr):=xs.foldl (fun ts x=>aput x.1 x.2 ts) ts
theorem mapT_toks:MapT ev 123 3 (.lit (.pointer none)):=⟨_,_,_,_,rfl,rfl,rfl,rfl,rfl⟩
structure TkI(q:Sta)(tk:List TkS)(t:Tn)(k:Nat)(M:List (Int×Mem))(ts:List (Int×Addr))(tb:List (Addr×List Tik)):Prop where
 M:M=takeM (q.ms.take k) t.M
 s:∃ad:List Addr,ad.length=k∧ts=putT (((q.ms.take k).map Mem.user).zip ad) t.ts∧tb=t.tb++ad.zip ((tk.take k).map TkS.l)
structure TkL where
 k:Nat
 M:List (Int×Mem)
 ts:List (Int×Addr)
 tb:List (Addr×List Tik)
theorem TkI.step{q:Sta}{tk:List TkS}{t:Tn}{k:Nat}{M:List (Int×Mem)}{ts:List (Int×Addr)}{tb:List (Addr×List Tik)}(h:TkI q tk t k M ts tb)(h1:k<q.ms.length)(h2:k<tk.length)(a:Addr):TkI q tk t (k+1) (takeM1 q.ms[k] M) (aput q.ms[k].user a ts) (tb++[(a,tk[k].l)]):=by
 obtain ⟨hM,ad,hl,hts,htb⟩:=h
 refine ⟨?_,ad++[a],by simp[hl],?_,?_⟩
 ·rw[hM,take_snoc h1]
  unfold takeM
  rw[List.foldl_append]
  rfl
 ·rw[take_snoc h1,List.map_append,List.zip_append (by simp[hl];omega),hts]
  unfold putT
  rw[List.foldl_append]
  rfl
 ·rw[take_snoc h2,List.map_append,List.zip_append (by simp[hl];omega),htb,List.append_assoc]
  rfl
def tkH(t:Tn)(M:List (Int×Mem))(ts:List (Int×Addr))(tb:List (Addr×List Tik)):List AObj:=[tnC t,.mrow (mE iK paV ts),.res (rosR t.ros M),.res (tabsR tb)]
theorem ttake{R:Res}{q:Sta}{tk:List TkS}{t:Tn}(h:q.Rd R)(hk:q.Tk R tk)(hn:tk.length=q.ms.length)(hl:q.ms.length≤60000) :
  CP [] 52 [.ptr 0 0,.agg q.a] (tkH t t.M t.ts t.tb++[.res R]) (fun v H'=>v=bA (tk.all fun x=>(tikFrom x.l).isSome)∧∃M ts tb G,((tk.all fun x=>(tikFrom x.l).isSome)=true→TkI q tk t q.ms.length M ts tb)∧H'=tkH t M ts tb++.res R::G):=by
 refine fn_ok ev_ok rfl ?_
 conv=>whnf
 refine loopP ev_ok rfl (fun s:TkL=>[(0,.ptr 0 0),(3,.ptr 5 0),(11,.lit (.slice q.om q.ms.length q.cm)),(12,iA q.ms.length),(13,iA (s.k:Nat))]) (fun s=>tkH t s.M s.ts s.tb++[.res R,.cells q.a 28])
  (fun s=>s.k≤q.ms.length∧TkI q tk t s.k s.M s.ts s.tb∧(tk.all fun x=>(tikFrom x.l).isSome)=((tk.drop s.k).all fun x=>(tikFrom x.l).isSome)) (fun s=>q.ms.length - s.k) ⟨0,t.M,t.ts,t.tb⟩ ⟨Nat.zero_le _,⟨rfl,[],rfl,rfl,by simp⟩,rfl⟩ [0,1,2,3,4,5] ?_ ?_
 ·exact ⟨rfl,⟨⟨rfl,rfl⟩,⟨rfl,rfl⟩,⟨rfl,rfl⟩,⟨rfl,rfl⟩,⟨rfl,rfl⟩,tU⟩,⟨⟨_,rfl,rfl⟩,⟨_,rfl,rfl⟩,⟨_,rfl,kp⟩,⟨_,rfl,kp⟩,⟨_,rfl,kp⟩,⟨_,rfl,rfl⟩,tU⟩⟩
 ·rintro ⟨k,M,ts,tb⟩ ⟨hk0,hi,hr⟩
  simp only[] at hk0 hi hr
  by_cases hkl:k<q.ms.length
  ·have hkt:k<tk.length:=by omega
   obtain ⟨a,ha,hrd⟩:=h.ms.at hkl
   obtain ⟨a2,ha2,hrd2⟩:=hk.rd.at hkt
   have hmem:tk[k]∈tk:=List.getElem_mem hkt
   rw[List.drop_eq_getElem_cons hkt,List.all_cons] at hr
   have hnt:=hk.nt
   simp only[ha,ha2,hnt,Sta.a]
   conv=>whnf
   refine brP_of (fun _=>?_) (noF hkl)
   repeat' ((conv=>whnf);first|with_reducible apply brP_of<;>intro _|refine WpS.drawn ev_ok rfl rfl ?_|with_reducible refine And.intro (AgP.mk ⟨_,rfl,rfl⟩) ?_|refine OpP.idxL ev_ok rfl rfl rfl rfl rfl hkl ?_|refine OpP.idxL ev_ok rfl rfl rfl rfl rfl hkt ?_|refine OpP.loadR (i:=4) (v:=.agg (mA q.ms[k])) rfl (fun w S hR=>hrd w S hR k hkl) rfl rfl ?_|refine OpP.loadR (i:=4) (v:=.lit (tkV tk[k])) rfl (fun w S hR=>hrd2 w S hR k hkt) rfl rfl ?_|(refine (tfromT (R:=R) (oa:=tk[k].oa) (c:=tk[k].c) (l:=tk[k].l) (tb:=tb) (hk.el _ hmem) (hk.bd _ hmem)).use [4,3] rfl rfl ⟨⟨_,rfl,kp⟩,⟨_,rfl,kp⟩,tU⟩ ?_;rintro _ _ ⟨e,a3,tb',G,rfl,he,ha3,rfl⟩;refine ⟨[],?_⟩;rcases e with _|e;(obtain ⟨a4,rfl,rfl⟩:=ha3 rfl))|refine OpP.mput (key:=q.ms[k].user) (a:=a4) mapT_toks keyE_int rfl rfl rfl rfl rfl rfl rfl rfl ?_|(refine (renrolR (a:=t.ros) (M:=M) (m:={ q.ms[k] with k:=0,area:=0 })).use [2] rfl rfl ⟨⟨_,rfl,kp⟩,tU⟩ ?_;rintro _ _ ⟨rfl,rfl⟩;refine ⟨[],?_⟩)|(refine (rprofileR (a:=t.ros) (M:=enrolM M { q.ms[k] with k:=0,area:=0 }) (u:=q.ms[k].user) (k:=q.ms[k].k) (ar:=q.ms[k].area)).use [2] rfl rfl ⟨⟨_,rfl,kp⟩,tU⟩ ?_;rintro _ _ ⟨rfl,rfl⟩;refine ⟨[],?_⟩))
   all_goals (try conv=>whnf)
   ·rename_i hx
    have hi2:=hi.step hkl hkt a4
    have e:takeM1 q.ms[k] M=M:=by
     unfold takeM1
     rw[if_pos (by simpa using hx)]
    rw[e] at hi2
    refine ⟨⟨k+1,M,aput q.ms[k].user a4 ts,tb++[(a4,tk[k].l)]⟩,[0,1,2,3,4,5],⟨⟨hkl,hi2,by rw[hr,he.1 rfl,Bool.true_and]⟩,by show q.ms.length - (k+1)<q.ms.length - k;omega⟩,rfl,⟨⟨rfl,rfl⟩,⟨rfl,rfl⟩,⟨rfl,rfl⟩,⟨rfl,rfl⟩,⟨rfl,subInt rfl (wrap_in (by omega) (by omega))⟩,tU⟩,⟨⟨_,rfl,rfl⟩,⟨_,rfl,rfl⟩,⟨_,rfl,kp⟩,⟨_,rfl,kp⟩,⟨_,rfl,kp⟩,⟨_,rfl,rfl⟩,tU⟩⟩
   ·rename_i hx
    have hi2:=hi.step hkl hkt a4
    have e:takeM1 q.ms[k] M=(profM q.ms[k].user q.ms[k].k q.ms[k].area (enrolM M { q.ms[k] with k:=0,area:=0 })).2:=by
     unfold takeM1
     simp only[Bool.not_eq_true',Bool.and_eq_false_iff,Bool.and_true,beq_eq_false_iff_ne,Bool.not_eq_eq_eq_not,Bool.not_true] at *
     rw[if_neg (by omega),if_neg (by omega)]
    rw[e] at hi2
    refine ⟨⟨k+1,(profM q.ms[k].user q.ms[k].k q.ms[k].area (enrolM M { q.ms[k] with k:=0,area:=0 })).2,aput q.ms[k].user a4 ts,tb++[(a4,tk[k].l)]⟩,[0,1,2,3,4,5],⟨⟨hkl,hi2,by rw[hr,he.1 rfl,Bool.true_and]⟩,by show q.ms.length - (k+1)<q.ms.length - k;omega⟩,rfl,⟨⟨rfl,rfl⟩,⟨rfl,rfl⟩,⟨rfl,rfl⟩,⟨rfl,rfl⟩,⟨rfl,subInt rfl (wrap_in (by omega) (by omega))⟩,tU⟩,⟨⟨_,rfl,rfl⟩,⟨_,rfl,rfl⟩,⟨_,rfl,kp⟩,⟨_,rfl,kp⟩,⟨_,rfl,kp⟩,⟨_,rfl,rfl⟩,tU⟩⟩
   ·rename_i hx
    have hi2:=hi.step hkl hkt a4
    have e:takeM1 q.ms[k] M=enrolM M { q.ms[k] with k:=0,area:=0 }:=by
     unfold takeM1
     simp only[Bool.not_eq_false',Bool.and_eq_true,Bool.and_true,beq_iff_eq,beq_eq_false_iff_ne,Bool.not_eq_eq_eq_not,Bool.not_false] at *
     rw[if_neg (by omega),if_pos (by omega)]
    rw[e] at hi2
    refine ⟨⟨k+1,enrolM M { q.ms[k] with k:=0,area:=0 },aput q.ms[k].user a4 ts,tb++[(a4,tk[k].l)]⟩,[0,1,2,3,4,5],⟨⟨hkl,hi2,by rw[hr,he.1 rfl,Bool.true_and]⟩,by show q.ms.length - (k+1)<q.ms.length - k;omega⟩,rfl,⟨⟨rfl,rfl⟩,⟨rfl,rfl⟩,⟨rfl,rfl⟩,⟨rfl,rfl⟩,⟨rfl,subInt rfl (wrap_in (by omega) (by omega))⟩,tU⟩,⟨⟨_,rfl,rfl⟩,⟨_,rfl,rfl⟩,⟨_,rfl,kp⟩,⟨_,rfl,kp⟩,⟨_,rfl,kp⟩,⟨_,rfl,rfl⟩,tU⟩⟩
   ·have hf:(tikFrom tk[k].l).isSome=false:=by
     cases hx:(tikFrom tk[k].l).isSome with
     | false=>rfl
     | true=>have:=he.2 hx;omega
    have hr2:(tk.all fun x=>(tikFrom x.l).isSome)=false:=by rw[hr,hf];rfl
    exact ⟨bA_eq hr2.symm,M,ts,tb',_,(fun h=>by rw[hr2] at h;cases h),rfl⟩
  ·obtain rfl:k=q.ms.length:=by omega
   rw[←hn,List.drop_length] at hr
   simp only[Sta.a]
   conv=>whnf
   refine brP_of (noT hkl) (fun _=>?_)
   repeat' ((conv=>whnf);first|with_reducible apply brP_of<;>intro _|refine WpS.drawn ev_ok rfl rfl ?_|with_reducible refine And.intro (AgP.mk ⟨_,rfl,rfl⟩) ?_ )
   all_goals (try conv=>whnf)
   exact ⟨bA_eq (by rw[hr];rfl),M,ts,tb,_,fun _=>hi,rfl⟩
def rpH(t:Tn)(ts:List (Int×Addr))(ns:List PN)(PB:List (Int×Rcd))(Ms:Nat→List (Int×Int)):List AObj:=[tnC t,.mrow (mE iK paV ts),.res (ptR t.pts ns PB),.res (pyrR t.pyr Ms)]
theorem tremove0{t:Tn}{ts:List (Int×Addr)}{ns:List PN}{PB:List (Int×Rcd)}{Ms:Nat→List (Int×Int)}{id:Int}(hi:PtI ns PB)(hn:aget id PB=none) :
  CP [] 139 [.ptr 0 0,iA id] (rpH t ts ns PB Ms) (fun v H'=>v=bA false∧∃G,H'=rpH t ts ns PB Ms++G):=by
 have h0:0<ns.length:=by obtain ⟨nd,h⟩:=hi.root;exact get_lt h
 refine fn_ok ev_ok rfl ?_
 repeat' ((conv=>whnf);first|with_reducible apply brP_of<;>intro _|(refine (ptfindR (a:=t.pts) (ns:=ns) (B:=PB) (id:=id) h0).use [2] rfl rfl ⟨⟨_,rfl,kp⟩,tU⟩ ?_;rintro _ _ ⟨rfl,rfl⟩;refine ⟨[],?_⟩;rw[hn]))
 all_goals (try conv=>whnf)
 exact ⟨rfl,_,rfl⟩
theorem treport{t:Tn}{ts:List (Int×Addr)}{ns:List PN}{PB:List (Int×Rcd)}{Ms:Nat→List (Int×Int)}{r:Rcd}(hi:PtI ns PB)(hn:aget r.id PB=none)(hf:fits r.x r.y=true)(hB:PB.length≤10000000) :
  CP [] 53 [.ptr 0 0,.agg (rcdA r)] (rpH t ts ns PB Ms) (fun v H'=>v=undefV∧∃ns' Ms' G,PtI ns' (PB++[(r.id,r)])∧H'=rpH t ts ns' (PB++[(r.id,r)]) Ms'++G):=by
 refine fn_ok ev_ok rfl ?_
 repeat' ((conv=>whnf);first|with_reducible apply brP_of<;>intro _|refine WpS.drawn ev_ok rfl rfl ?_|with_reducible refine And.intro (AgP.mk ⟨_,rfl,rfl⟩) ?_|(refine (tremove0 (t:=t) (ts:=ts) (Ms:=Ms) hi hn).use [0,1,2,3] rfl rfl ⟨⟨_,rfl,rfl⟩,⟨_,rfl,rfl⟩,⟨_,rfl,kp⟩,⟨_,rfl,kp⟩,tU⟩ ?_;rintro _ _ ⟨rfl,G,rfl⟩;refine ⟨[],?_⟩)|(refine (ptins (a:=t.pts) (r:=r) hi hB).use [2] rfl rfl ⟨⟨_,rfl,kp⟩,tU⟩ ?_;rintro _ _ (⟨h1,_⟩|⟨_,h1,_⟩|⟨_,_,ns',h1,hi',rfl,rfl⟩);(exfalso;rw[hf] at h1;cases h1);(exfalso;rw[hn] at h1;cases h1);refine ⟨[],?_⟩)|(refine (paddR (a:=t.pyr) (Ms:=Ms) (x:=r.x) (y:=r.y)).use [3] rfl rfl ⟨⟨_,rfl,kp⟩,tU⟩ ?_;rintro _ _ ⟨rfl,Ms',rfl⟩;refine ⟨[],?_⟩))
 all_goals (try conv=>whnf)
 all_goals exact ⟨rfl,ns',Ms',_,hi',rfl⟩
def Sta.s(q:Sta):List UInt8:=q.tx.data.toList
def impOk(q:Sta)(tk:List TkS):Bool:=q.sound&&(decide ((readR q.s).2.err=0)&&(readR q.s).1.all Rl.ok&&tk.all fun x=>(tikFrom x.l).isSome)
structure TnOf(q:Sta)(tk:List TkS)(t:Tn):Prop where
 M:t.M=takeM q.ms [(0,⟨0,0,0,65535,0,0⟩)]
 s:∃a0 ad,ad.length=q.ms.length∧t.ts=putT ((q.ms.map Mem.user).zip ad) [(0,a0)]∧t.tb=[(a0,[])]++ad.zip (tk.map TkS.l)
 pt:PtI t.ns t.PB∧t.PB=q.rs.map fun r=>(r.id,r)
 cq:CqI t.T∧t.CB=q.ss.map fun s=>(s.id,s)
 gr:GrI (readR q.s).1 t.ys t.np
 tr:t.es=q.es∧t.past=q.past
 tx:t.text=q.tx
def ImpPost(R:Res)(q:Sta)(tk:List TkS)(v:AV)(H':List AObj):Prop:=
 (impOk q tk=true∧v=.tuple [.ptr 2 0,iA 0]∧∃t G,TnOf q tk t∧H'=[.res R,.cells q.a 28,.cells [paL t.ros,.map 3,paL t.pts,paL t.cqs,paL t.grt,paL t.pyr,paL t.trl,.lit (.string t.text)] tTn,.mrow (mE iK paV t.ts),.res (rosR t.ros t.M),.res (tabsR t.tb),.res (ptR t.pts t.ns t.PB),.res (cqR t.cqs t.T t.CB),.res (grtR t.grt t.ys t.np),.res (pyrR t.pyr t.Ms),.res (trR t.trl t.es t.past)]++G) ∨
 (impOk q tk=false∧v=.tuple [.lit (.pointer none),iA 1]∧∃G,H'=.res R::G)
theorem rv_form{rv:Value}{rs:List Rue}(h:(rv=nilV∧rs=[])∨∃A m,rv=.slice (some A) rs.length m):∃A m,rv=.slice A rs.length m:=by
 rcases h with ⟨rfl,rfl⟩|⟨A,m,rfl⟩
 ·exact ⟨none,0,rfl⟩
 ·exact ⟨_,_,rfl⟩
theorem sound_nt{q:Sta}(h:q.sound=true):q.nt=q.ms.length:=by
 unfold Sta.sound at h
 rw[Bool.and_eq_true,decide_eq_true_eq] at h
 exact h.1.1
theorem rises_all:∀{l:List Int} {x:Int},rises2 x l=true→∀y∈l,x<y
 | [],_,_,y,hy=>by simp at hy
 | z::l,x,h,y,hy=>by
   unfold rises2 at h
   simp only[Bool.and_eq_true,decide_eq_true_eq] at h
   rcases List.mem_cons.1 hy with rfl|hy
   ·omega
   ·have:=rises_all h.2 y hy
    omega
theorem rises_pair:∀{l:List Int} {x:Int},rises2 x l=true→l.Pairwise (·<·)
 | [],_,_=>.nil
 | z::l,x,h=>by
   unfold rises2 at h
   simp only[Bool.and_eq_true,decide_eq_true_eq] at h
   exact .cons (rises_all h.2) (rises_pair h.2)
theorem rising_pair{l:List Int}(h:risingB l=true):l.Pairwise (·<·):=by
 cases l with
 | nil=>exact .nil
 | cons x l=>exact .cons (rises_all h) (rises_pair h)
theorem afind_none{κ α:Type}[DecidableEq κ]{k:κ}:∀{l:List (κ×α)} {i:Nat},(∀p∈l,p.1≠k)→afind k l i=none
 | [],_,_=>rfl
 | p::l,i,h=>by
   unfold afind
   rw[if_neg (Ne.symm (h p (List.mem_cons_self ..)))]
   exact afind_none fun q hq=>h q (List.mem_cons_of_mem _ hq)
theorem aget_rising{α:Type}{id:α→Int}{l:List α}(h:risingB (l.map id)=true){k:Nat}(hk:k<l.length):aget (id l[k]) ((l.take k).map fun r=>(id r,r))=none:=by
 unfold aget
 rw[afind_none]
 ·rfl
 ·intro p hp e
  obtain ⟨r,hr,rfl⟩:=List.mem_map.1 hp
  obtain ⟨i,hi,rfl⟩:=List.getElem_of_mem hr
  rw[List.length_take] at hi
  rw[List.getElem_take] at e
  have hp2:=rising_pair h
  rw[List.pairwise_iff_getElem] at hp2
  have:=hp2 i k (by rw[List.length_map];omega) (by rw[List.length_map];omega) (by omega)
  simp only[List.getElem_map] at this
  simp only[] at e
  omega
def imH(R:Res)(q:Sta)(t:Tn):List AObj:=[.res R,.cells q.a 28,.cells [paL t.ros,.map 3,paL t.pts,paL t.cqs,paL t.grt,paL t.pyr,paL t.trl,.lit (.string t.text)] tTn,.mrow (mE iK paV t.ts),.res (rosR t.ros t.M),.res (tabsR t.tb),.res (ptR t.pts t.ns t.PB),.res (cqR t.cqs t.T t.CB),.res (grtR t.grt t.ys t.np),.res (pyrR t.pyr t.Ms),.res (trR t.trl t.es t.past)]
structure Im1 where
 k:Nat
 ns:List PN
 PB:List (Int×Rcd)
 Ms:Nat→List (Int×Int)
structure Im2 where
 k:Nat
 T:QT
 CB:List (Int×Shp)
structure Tn0(q:Sta)(tk:List TkS)(t:Tn):Prop where
 M:t.M=takeM q.ms [(0,⟨0,0,0,65535,0,0⟩)]
 s:∃a0 ad,ad.length=q.ms.length∧t.ts=putT ((q.ms.map Mem.user).zip ad) [(0,a0)]∧t.tb=[(a0,[])]++ad.zip (tk.map TkS.l)
 ns:t.ns=[PN.leaf ⟨0,0,0⟩]∧t.PB=[]
 cq:CqI t.T∧t.CB=[]
 gr:GrI (readR q.s).1 t.ys t.np
 tr:t.es=[]∧t.past=0
 tx:t.text=q.tx
theorem pti_new:PtI [PN.leaf ⟨0,0,0⟩] [] where
 wf:=by
  have hg:∀(i:Nat) (n:PN),(En [PN.leaf ⟨0,0,0⟩])[i]?=some n→n=PN.leaf ⟨0,0,0⟩:=fun i n h=>by
   rcases i with _|i
   ·exact (Option.some.inj h).symm
   ·simp[En] at h
  refine ⟨fun i n h=>?_,fun i n h hs=>?_,fun i n h _ _ _=>?_,fun x h=>?_,.nil⟩
  ·rw[hg i n h];rfl
  ·rw[hg i n h] at hs;cases hs
  ·rw[hg i n h];exact Nat.zero_le _
  ·simp at h
 root:=⟨_,rfl⟩
 len:=by simp
 tot:=Nat.le_refl _
theorem sound_all{q:Sta}(h:q.sound=true):(∀r∈q.rs,r.placed=true)∧(∀s∈q.ss,s.placed=true)∧risingB (q.rs.map (·.id))=true∧risingB (q.ss.map (·.id))=true∧0≤q.past∧q.past≤4611686018427387903:=by
 unfold Sta.sound Sta.listed Sta.rids Sta.sids at h
 simp only[Bool.and_eq_true,decide_eq_true_eq] at h
 obtain ⟨⟨_,h1,h2⟩,⟨⟨_,⟨⟨⟨h3,h4⟩,_⟩,_⟩⟩,h5,h6⟩,_⟩:=h
 exact ⟨List.all_eq_true.1 h5,List.all_eq_true.1 h6,h3,h4,h1,h2⟩
theorem timport1{R:Res}{q:Sta}{tk:List TkS}(h:q.Rd R)(hk:q.Tk R tk)(h0:q.ms.length≤60000)(h1:q.rs.length≤60000)(h2:q.ss.length≤60000)(h3:q.es.length≤60000):CP [] 19 [.agg q.a] [.res R] (ImpPost R q tk):=by
 refine fn_ok ev_ok rfl ?_
 repeat' ((conv=>whnf);first|with_reducible apply brP_of<;>intro _|refine WpS.drawn ev_ok rfl rfl ?_|with_reducible refine And.intro (AgP.mk ⟨_,rfl,rfl⟩) ?_|(refine (fsound h h0 h1 h2 (by omega)).use [0] rfl rfl ⟨⟨_,rfl,kp⟩,tU⟩ ?_;rintro _ _ ⟨rfl,G,rfl⟩;refine ⟨[],?_⟩)|(refine (rread (s:=q.s)).use [] rfl rfl trivial ?_;rintro _ _ (⟨_,rs,pl,hq,hb,hv,rfl,hl,G1,G2,G3,G,rfl⟩|⟨f,hq,hf,rfl⟩);obtain ⟨A,m,rfl⟩:=rv_form hv;refine ⟨[3,4],?_⟩;rotate_left;refine ⟨[],?_⟩;rotate_left)|(refine (gnew (m:=m) hb hl).use [2,3] rfl rfl ⟨⟨_,rfl,kp⟩,⟨_,rfl,kp⟩,tU⟩ ?_;rintro _ _ (⟨hok,a,ys,np,rfl,hg,rfl⟩|⟨hok,rfl,G,rfl⟩);refine ⟨[2],?_⟩;rotate_left;refine ⟨[],?_⟩;rotate_left)|(refine gnew0.use [] rfl rfl trivial ?_;rintro _ _ ⟨a2,ys,np,G1,G2,rfl,hi,rfl⟩;refine ⟨[2],?_⟩)|(refine tfresh.use [] rfl rfl trivial ?_;rintro _ _ ⟨rfl,t,ht,rfl⟩;refine ⟨[0,1,2,3,4,5,6,7,8],?_⟩)|(refine (ttake (t:=t) h hk (hk.nt.symm.trans (sound_nt (by assumption))) h0).use [14,9,8,10,0] rfl rfl ⟨⟨_,rfl,rfl⟩,⟨_,rfl,rfl⟩,⟨_,rfl,kp⟩,⟨_,rfl,kp⟩,⟨_,rfl,kp⟩,tU⟩ ?_;rintro _ _ ⟨rfl,M,ts,tb,G,hti,rfl⟩;refine ⟨[],?_⟩))
 all_goals (try conv=>whnf)
 ·have hsd:q.sound=true:=by assumption
  have htk:(tk.all fun x=>(tikFrom x.l).isSome)=true:=by assumption
  obtain ⟨ha1,ha2,ha3,ha4,ha5,ha6⟩:=sound_all hsd
  have himp:impOk q tk=true:=by
   unfold impOk
   rw[hsd,hq,htk]
   simp only[Flt.ok,decide_true,List.all_map,Bool.true_and,Bool.and_true]
   exact hok
  have hT0:Tn0 q tk { t with grt:=a,text:=q.tx,M:=M,ts:=ts,tb:=tb,ys:=ys,np:=np }:=by
   obtain ⟨hM,ad,hl2,hts,htb⟩:=hti htk
   obtain ⟨a0,h5,h6⟩:=ht.ts
   have e1:q.ms.take q.ms.length=q.ms:=List.take_length
   have e2:tk.take q.ms.length=tk:=by rw[←sound_nt hsd,hk.nt];exact List.take_length
   rw[e1] at hM hts
   rw[e2] at htb
   exact ⟨by rw[←ht.M];exact hM,⟨a0,ad,hl2,by rw[←h5];exact hts,by rw[←h6];exact htb⟩,ht.ns,ht.cq,by rw[hq];exact hg,ht.tr,rfl⟩
  refine WpS.sub [0,1,14,9,8,10,6,11,5,12,13] (l:=[(1,.ptr 1 0),(8,.ptr 2 0),(52,.lit (.slice q.orr q.rs.length q.cr)),(53,iA q.rs.length),(54,iA (0:Nat))]) (H0:=imH R q { t with grt:=a,text:=q.tx,M:=M,ts:=ts,tb:=tb,ys:=ys,np:=np }) ⟨rfl,⟨⟨rfl,rfl⟩,⟨rfl,rfl⟩,⟨rfl,rfl⟩,⟨rfl,rfl⟩,⟨rfl,rfl⟩,tU⟩,⟨⟨_,rfl,kp⟩,⟨_,rfl,rfl⟩,⟨_,rfl,rfl⟩,⟨_,rfl,rfl⟩,⟨_,rfl,kp⟩,⟨_,rfl,kp⟩,⟨_,rfl,kp⟩,⟨_,rfl,kp⟩,⟨_,rfl,kp⟩,⟨_,rfl,kp⟩,⟨_,rfl,kp⟩,tU⟩⟩ ?_
  generalize ({ t with grt:=a,text:=q.tx,M:=M,ts:=ts,tb:=tb,ys:=ys,np:=np }:Tn)=t0 at hT0 ⊢
  clear hti hg ht hb hq hok hv
  refine loopP ev_ok rfl (fun s:Im1=>[(1,.ptr 1 0),(8,.ptr 2 0),(52,.lit (.slice q.orr q.rs.length q.cr)),(53,iA q.rs.length),(54,iA (s.k:Nat))]) (fun s=>imH R q { t0 with ns:=s.ns,PB:=s.PB,Ms:=s.Ms })
   (fun s=>s.k≤q.rs.length∧PtI s.ns s.PB∧s.PB=(q.rs.take s.k).map fun r=>(r.id,r)) (fun s=>q.rs.length - s.k) ⟨0,t0.ns,t0.PB,t0.Ms⟩ ⟨Nat.zero_le _,by rw[hT0.ns.1,hT0.ns.2];exact pti_new,by rw[hT0.ns.2];rfl⟩ [0,1,2,3,4,5,6,7,8,9,10] ?_ ?_
  ·exact ⟨rfl,⟨⟨rfl,rfl⟩,⟨rfl,rfl⟩,⟨rfl,rfl⟩,⟨rfl,rfl⟩,⟨rfl,rfl⟩,tU⟩,⟨⟨_,rfl,kp⟩,⟨_,rfl,rfl⟩,⟨_,rfl,rfl⟩,⟨_,rfl,rfl⟩,⟨_,rfl,kp⟩,⟨_,rfl,kp⟩,⟨_,rfl,kp⟩,⟨_,rfl,kp⟩,⟨_,rfl,kp⟩,⟨_,rfl,kp⟩,⟨_,rfl,kp⟩,tU⟩⟩
  ·rintro ⟨k,ns,PB,Ms⟩ ⟨hk0,hpt,hPB⟩
   simp only[] at hk0 hpt hPB
   by_cases hkl:k<q.rs.length
   ·obtain ⟨ad,had,hrd⟩:=h.rs.at hkl
    simp only[had,imH,Sta.a]
    conv=>whnf
    refine brP_of (fun _=>?_) (noF hkl)
    have hfit:fits q.rs[k].x q.rs[k].y=true:=by
     have:=ha1 _ (List.getElem_mem hkl)
     unfold Rcd.placed at this
     rw[Bool.and_eq_true] at this
     exact this.1
    have hnew:aget q.rs[k].id PB=none:=by rw[hPB];exact aget_rising ha3 hkl
    have hPl:PB.length≤10000000:=by rw[hPB,List.length_map,List.length_take];omega
    repeat' ((conv=>whnf);first|with_reducible apply brP_of<;>intro _|refine WpS.drawn ev_ok rfl rfl ?_|with_reducible refine And.intro (AgP.mk ⟨_,rfl,rfl⟩) ?_|refine OpP.idxL ev_ok rfl rfl rfl rfl rfl hkl ?_|refine OpP.loadR (i:=0) (v:=.agg (rcdA q.rs[k])) rfl (fun w S hR=>hrd w S hR k hkl) rfl rfl ?_|(refine (treport (t:=t0) (ts:=t0.ts) (Ms:=Ms) (r:=q.rs[k]) hpt hnew hfit hPl).use [2,3,6,9] rfl rfl ⟨⟨_,rfl,rfl⟩,⟨_,rfl,rfl⟩,⟨_,rfl,kp⟩,⟨_,rfl,kp⟩,tU⟩ ?_;rintro _ _ ⟨rfl,ns',Ms',G,hpt',rfl⟩;refine ⟨[],?_⟩))
    all_goals (try conv=>whnf)
    exact ⟨⟨k+1,ns',PB++[(q.rs[k].id,q.rs[k])],Ms'⟩,[0,1,2,3,4,5,6,7,8,9,10],⟨⟨hkl,hpt',by show _=(q.rs.take (k+1)).map _;rw[take_snoc hkl,List.map_append,hPB];rfl⟩,by show q.rs.length - (k+1)<q.rs.length - k;omega⟩,rfl,⟨⟨rfl,rfl⟩,⟨rfl,rfl⟩,⟨rfl,rfl⟩,⟨rfl,rfl⟩,⟨rfl,subInt rfl (wrap_in (by omega) (by omega))⟩,tU⟩,⟨⟨_,rfl,kp⟩,⟨_,rfl,rfl⟩,⟨_,rfl,rfl⟩,⟨_,rfl,rfl⟩,⟨_,rfl,kp⟩,⟨_,rfl,kp⟩,⟨_,rfl,kp⟩,⟨_,rfl,kp⟩,⟨_,rfl,kp⟩,⟨_,rfl,kp⟩,⟨_,rfl,kp⟩,tU⟩⟩
   ·obtain rfl:k=q.rs.length:=by omega
    rw[List.take_length] at hPB
    simp only[imH,Sta.a]
    conv=>whnf
    refine brP_of (noT hkl) (fun _=>?_)
    repeat' ((conv=>whnf);first|with_reducible apply brP_of<;>intro _|refine WpS.drawn ev_ok rfl rfl ?_|with_reducible refine And.intro (AgP.mk ⟨_,rfl,rfl⟩) ?_ )
    refine loopP ev_ok rfl (fun s:Im2=>[(1,.ptr 1 0),(8,.ptr 2 0),(63,.lit (.slice q.os q.ss.length q.cs)),(64,iA q.ss.length),(65,iA (s.k:Nat))]) (fun s=>imH R q { t0 with ns:=ns,PB:=PB,Ms:=Ms,T:=s.T,CB:=s.CB })
     (fun s=>s.k≤q.ss.length∧CqI s.T∧s.CB=(q.ss.take s.k).map fun r=>(r.id,r)) (fun s=>q.ss.length - s.k) ⟨0,t0.T,t0.CB⟩ ⟨Nat.zero_le _,hT0.cq.1,by rw[hT0.cq.2];rfl⟩ [0,1,2,3,4,5,6,7,8,9,10] ?_ ?_
    ·exact ⟨rfl,⟨⟨rfl,rfl⟩,⟨rfl,rfl⟩,⟨rfl,rfl⟩,⟨rfl,rfl⟩,⟨rfl,rfl⟩,tU⟩,⟨⟨_,rfl,kp⟩,⟨_,rfl,rfl⟩,⟨_,rfl,rfl⟩,⟨_,rfl,rfl⟩,⟨_,rfl,kp⟩,⟨_,rfl,kp⟩,⟨_,rfl,kp⟩,⟨_,rfl,kp⟩,⟨_,rfl,kp⟩,⟨_,rfl,kp⟩,⟨_,rfl,kp⟩,tU⟩⟩
    ·rintro ⟨k,T,CB⟩ ⟨hk0,hT,hCB⟩
     simp only[] at hk0 hT hCB
     by_cases hkl:k<q.ss.length
     ·obtain ⟨ad,had,hrd⟩:=h.ss.at hkl
      simp only[had,imH,Sta.a]
      conv=>whnf
      refine brP_of (fun _=>?_) (noF hkl)
      have hrc:rcOk q.ss[k].x0 q.ss[k].y0 q.ss[k].x1 q.ss[k].y1=true:=by
       have:=ha2 _ (List.getElem_mem hkl)
       unfold Shp.placed at this
       rw[Bool.and_eq_true] at this
       exact this.1
      have hnew:aget q.ss[k].id CB=none:=by rw[hCB];exact aget_rising ha4 hkl
      repeat' ((conv=>whnf);first|with_reducible apply brP_of<;>intro _|refine WpS.drawn ev_ok rfl rfl ?_|with_reducible refine And.intro (AgP.mk ⟨_,rfl,rfl⟩) ?_|refine OpP.idxL ev_ok rfl rfl rfl rfl rfl hkl ?_|refine OpP.loadR (i:=0) (v:=.agg (shpA q.ss[k])) rfl (fun w S hR=>hrd w S hR k hkl) rfl rfl ?_|(refine (cqput (a:=t0.cqs) (s:=q.ss[k]) hT hrc hnew).use [7] rfl rfl ⟨⟨_,rfl,kp⟩,tU⟩ ?_;rintro _ _ ⟨rfl,T',rfl,hT'⟩;refine ⟨[],?_⟩))
      all_goals (try conv=>whnf)
      exact ⟨⟨k+1,T',CB++[(q.ss[k].id,q.ss[k])]⟩,[0,1,2,3,4,5,6,7,8,9,10],⟨⟨hkl,hT',by show _=(q.ss.take (k+1)).map _;rw[take_snoc hkl,List.map_append,hCB];rfl⟩,by show q.ss.length - (k+1)<q.ss.length - k;omega⟩,rfl,⟨⟨rfl,rfl⟩,⟨rfl,rfl⟩,⟨rfl,rfl⟩,⟨rfl,rfl⟩,⟨rfl,subInt rfl (wrap_in (by omega) (by omega))⟩,tU⟩,⟨⟨_,rfl,kp⟩,⟨_,rfl,rfl⟩,⟨_,rfl,rfl⟩,⟨_,rfl,rfl⟩,⟨_,rfl,kp⟩,⟨_,rfl,kp⟩,⟨_,rfl,kp⟩,⟨_,rfl,kp⟩,⟨_,rfl,kp⟩,⟨_,rfl,kp⟩,⟨_,rfl,kp⟩,tU⟩⟩
     ·obtain rfl:k=q.ss.length:=by omega
      rw[List.take_length] at hCB
      simp only[imH,Sta.a]
      conv=>whnf
      refine brP_of (noT hkl) (fun _=>?_)
      have hsk:skipP t0.past q.past=(true,q.past):=by
       rw[hT0.tr.2]
       unfold skipP
       rw[if_neg (by omega)]
       simp
      repeat' ((conv=>whnf);first|with_reducible apply brP_of<;>intro _|refine WpS.drawn ev_ok rfl rfl ?_|with_reducible refine And.intro (AgP.mk ⟨_,rfl,rfl⟩) ?_|(refine (askip (a:=t0.trl) (es:=t0.es) (past:=t0.past) (n:=q.past) (by rw[hT0.tr.2];omega)).use [10] rfl rfl ⟨⟨_,rfl,kp⟩,tU⟩ ?_;rintro _ _ ⟨rfl,rfl⟩;refine ⟨[],?_⟩;rw[hsk]))
      refine loopP ev_ok rfl (fun s:Nat×List Evn=>[(1,.ptr 1 0),(8,.ptr 2 0),(85,.lit (.slice q.oe q.es.length q.ce)),(86,iA q.es.length),(87,iA (s.1:Nat))]) (fun s=>imH R q { t0 with ns:=ns,PB:=PB,Ms:=Ms,T:=T,CB:=CB,past:=q.past,es:=s.2 })
       (fun s=>s.1≤q.es.length∧s.2=q.es.take s.1) (fun s=>q.es.length - s.1) (0,t0.es) ⟨Nat.zero_le _,hT0.tr.1⟩ [0,1,2,3,4,5,6,7,8,9,10] ?_ ?_
      ·exact ⟨rfl,⟨⟨rfl,rfl⟩,⟨rfl,rfl⟩,⟨rfl,rfl⟩,⟨rfl,rfl⟩,⟨rfl,rfl⟩,tU⟩,⟨⟨_,rfl,kp⟩,⟨_,rfl,rfl⟩,⟨_,rfl,rfl⟩,⟨_,rfl,rfl⟩,⟨_,rfl,kp⟩,⟨_,rfl,kp⟩,⟨_,rfl,kp⟩,⟨_,rfl,kp⟩,⟨_,rfl,kp⟩,⟨_,rfl,kp⟩,⟨_,rfl,kp⟩,tU⟩⟩
      ·rintro ⟨k,es⟩ ⟨hk0,hes⟩
       simp only[] at hk0 hes
       by_cases hkl:k<q.es.length
       ·obtain ⟨ad,had,hrd⟩:=h.es.at hkl
        simp only[had,imH,Sta.a]
        conv=>whnf
        refine brP_of (fun _=>?_) (noF hkl)
        repeat' ((conv=>whnf);first|with_reducible apply brP_of<;>intro _|refine WpS.drawn ev_ok rfl rfl ?_|with_reducible refine And.intro (AgP.mk ⟨_,rfl,rfl⟩) ?_|refine OpP.idxL ev_ok rfl rfl rfl rfl rfl hkl ?_|refine OpP.loadR (i:=0) (v:=.agg (evA q.es[k])) rfl (fun w S hR=>hrd w S hR k hkl) rfl rfl ?_|(refine (aput' (a:=t0.trl) (es:=es) (past:=q.past) (e:=q.es[k]) (by rw[hes,List.length_take];omega)).use [10] rfl rfl ⟨⟨_,rfl,kp⟩,tU⟩ ?_;rintro _ _ ⟨rfl,rfl⟩;refine ⟨[],?_⟩))
        all_goals (try conv=>whnf)
        exact ⟨(k+1,es++[q.es[k]]),[0,1,2,3,4,5,6,7,8,9,10],⟨⟨hkl,by show _=q.es.take (k+1);rw[take_snoc hkl,hes]⟩,by show q.es.length - (k+1)<q.es.length - k;omega⟩,rfl,⟨⟨rfl,rfl⟩,⟨rfl,rfl⟩,⟨rfl,rfl⟩,⟨rfl,rfl⟩,⟨rfl,subInt rfl (wrap_in (by omega) (by omega))⟩,tU⟩,⟨⟨_,rfl,kp⟩,⟨_,rfl,rfl⟩,⟨_,rfl,rfl⟩,⟨_,rfl,rfl⟩,⟨_,rfl,kp⟩,⟨_,rfl,kp⟩,⟨_,rfl,kp⟩,⟨_,rfl,kp⟩,⟨_,rfl,kp⟩,⟨_,rfl,kp⟩,⟨_,rfl,kp⟩,tU⟩⟩
       ·obtain rfl:k=q.es.length:=by omega
        rw[List.take_length] at hes
        simp only[imH,Sta.a]
        conv=>whnf
        refine brP_of (noT hkl) (fun _=>?_)
        repeat' ((conv=>whnf);first|with_reducible apply brP_of<;>intro _|refine WpS.drawn ev_ok rfl rfl ?_|with_reducible refine And.intro (AgP.mk ⟨_,rfl,rfl⟩) ?_ )
        all_goals (try conv=>whnf)
        exact .inl ⟨himp,rfl,{ t0 with ns:=ns,PB:=PB,Ms:=Ms,T:=T,CB:=CB,past:=q.past,es:=es },[],⟨hT0.M,hT0.s,⟨hpt,hPB⟩,⟨hT,hCB⟩,hT0.gr,⟨hes,rfl⟩,hT0.tx⟩,rfl⟩
 ·have htk:(tk.all fun x=>(tikFrom x.l).isSome)=false:=by assumption
  have himp:impOk q tk=false:=by
   unfold impOk
   rw[htk]
   simp
  exact .inr ⟨himp,rfl,_,rfl⟩
 ·have himp:impOk q tk=false:=by
   unfold impOk
   have e:(rs.map Rue.x).all Rl.ok=false:=by rw[List.all_map];exact hok
   rw[hq,e]
   simp
  exact .inr ⟨himp,rfl,_,rfl⟩
 ·have himp:impOk q tk=false:=by
   unfold impOk
   rw[hq]
   simp[hf]
  exact .inr ⟨himp,rfl,_,rfl⟩
 ·have hx:((f.err:Int) != 0)=false:=by assumption
  exact absurd (by simpa using hx) hf
 ·have hsd:q.sound=false:=by assumption
  have himp:impOk q tk=false:=by
   unfold impOk
   rw[hsd]
   rfl
  exact .inr ⟨himp,rfl,_,rfl⟩
end Go.Proofs.YtmbdghclhpboaaaGreat
namespace Go.Proofs.YtmbdghclhpboaaaGreat
open Ev Go.RowKit Go.Lib
abbrev tBy:TypeId:=5
abbrev tBs:TypeId:=31
abbrev tWr:TypeId:=64
theorem app_by:AppT ev tBs tBy 1:=⟨⟨_,rfl,rfl⟩,_,_,rfl,rfl,rfl,rfl,by decide⟩
theorem str_block{w:World}{v:Value}{l:List UInt8}{tt:TypeId}{s:List UInt8}{v':Value}{w':World}(hown:Own byC 1 tBy w 0 v l)(h63:l.length+s.length≤1000000000000)(hr:(Builtin.append_ #[tBs,9] tt #[v,stK s]).run Tryz.prog w=.ok v' w')(hn:v'=.slice none 0 0↔v=.slice none 0 0∧s.length=0) :
  ∀b,v'.ownBlock=some b→v.ownBlock=some b∨w.heap.size≤b:=by
 obtain ⟨i,z,hi,hz,hsz,hby,hzs⟩:=by_elem.inf
 have hz':z=.int .u8 0:=by
  have:(Tryz.prog.info? 5).map (·.zero)=some (some (.int .u8 0)):=by kernel_rfl
  rw[hi,Option.map_some,Option.some.injEq,hz,Option.some.injEq] at this
  exact this
 rw[hz'] at hz
 have hss:(⟨s.toArray⟩:ByteArray).size=s.length:=str_size s
 rcases hown.2 with ⟨rfl,h0⟩|⟨g,cap,cur,rfl,hb,hg,h1,h2,h3,h4⟩
 ·by_cases hs0:s.length=0
  ·rw[hn.2 ⟨rfl,hs0⟩]
   intro b hb
   simp[Value.ownBlock] at hb
  ·have h5:=run_append_nil_string (P:=Tryz.prog) w tBs 9 tt tBy i (.int .u8 0) Tryz.underlying31 Tryz.underlying9 hi hz ⟨s.toArray⟩ (by rw[hss];omega) (by rw[hss];omega) (by rw[hss,hby];omega)
   have h6:=hr.symm.trans h5
   injection h6 with h6 h7
   rw[h6]
   intro b hb
   simp only[Value.ownBlock,Option.some.injEq] at hb
   exact .inr (by omega)
 ·by_cases hroom:l.length+s.length≤cap
  ·have h5:=run_append_room_string (P:=Tryz.prog) w tBs 9 tt tBy i Tryz.underlying31 Tryz.underlying9 hi hsz g l.length cap cur hg ⟨s.toArray⟩ (by rw[hss];exact hroom) (by rw[hss];omega)
   have h6:=hr.symm.trans h5
   injection h6 with h6 h7
   rw[h6]
   intro b hb
   exact .inl hb
  ·have h5:=run_append_grow_string (P:=Tryz.prog) w tBs 9 tt tBy i (.int .u8 0) Tryz.underlying31 Tryz.underlying9 hi hz ⟨g,0,none⟩ l.length cap (l.flatMap byC) (by rw[flat_len byC_len,hsz]) (World.ownsRow.cells hown (g:=g) rfl) ⟨s.toArray⟩ (by rw[hss];omega) (by rw[hss];omega) (by rw[hss,hby];exact growslice_fits (by omega) (by omega))
   have h6:=hr.symm.trans h5
   injection h6 with h6 h7
   rw[h6]
   intro b hb
   simp only[Value.ownBlock,Option.some.injEq] at hb
   exact .inr (by omega)
theorem OpM.appStr{S:List Nat}{t:Tmps}{H:List AObj}{K:AV→List AObj→Prop}{c:Call}{s x:Operand}{v:Value}{l tx:List UInt8}{i:Nat}{R R1:Res}{R':Value→Res}
  (hc:c={ callee:=.builtin .append,args:=#[s,x],argTypes:=#[tBs,9] }) (hs:opnd t s=some (.lit v)) (hx:opnd t x=some (.lit (stK tx))) (hi:H[i]?=some (.res R))
  (hsp:∀w S,R.at_ w S→stars [OwnR byC 1 tBy v l,R1] w S) (hjn:∀v' w S,stars [OwnR byC 1 tBy v' (l++tx),R1] w S→(R' v').at_ w S) (hlen:l.length+tx.length≤1000000000000)
  (kk:∀v',SlF v' (l++tx)→setK H i (.res (R' v')) fun H'=>K (.lit v') H'):OpM Tryz.prog S t H (.call c) K:=by
 refine OpM.appO hc hs hx hi hsp hjn (fun F γ w tt hrs hown=>?_) kk
 obtain ⟨i,z,hi,hz,hsz,hby,hzs⟩:=by_elem.inf
 have hz':z=.int .u8 0:=by
  have:(Tryz.prog.info? 5).map (·.zero)=some (some (.int .u8 0)):=by kernel_rfl
  rw[hi,Option.map_some,Option.some.injEq,hz,Option.some.injEq] at this
  exact this
 rw[hz'] at hz
 obtain ⟨v',w',hr,h2,h3,h4⟩:=run_append_own_string (P:=Tryz.prog) w 0 tBs 9 tt tBy i Tryz.underlying31 Tryz.underlying9 hi hz hsz hby v l.length _ hown ⟨tx.toArray⟩ (by rw[str_size];unfold maxLen;omega) (by rw[str_size];omega) (Nat.zero_le _)
 rw[strCells_by,str_size] at h2
 refine ⟨v',w',hr,?_,h3,str_block hown hlen hr (by rw[str_size] at h4;exact h4)⟩
 unfold Own
 rw[List.flatMap_append,List.length_append]
 exact h2
theorem nput{k n:Nat}{H:List AObj}{K:AV→List AObj→Prop}(h1:1≤k)(h2:k≤8)(hn:n<18446744073709551616)(hk:n<256 ^ k)(hlim:Nat.blt H.length lim=true)
  (kk:∀a m R,(∀w S,R.at_ w S→∃b off,some a=some ⟨b,off,none⟩∧Lay w b off ((toBE k n).flatMap byC))→K (.tuple [.lit (.slice (some a) (toBE k n).length m),iA 0]) (H++[.res R])):CP [] 165 [uA n,iA k] H K:=by
 have hl:(toBE k n).length=k:=toBE_len k n
 have hne:toBE k n≠[]:=fun e=>by rw[e] at hl;simp at hl;omega
 refine CallS.of_snap ev_ok rfl (ι:=Addr×Nat) (fun i=>.tuple [.lit (.slice (some i.1) (toBE k n).length i.2),iA 0]) (fun i base w'=>Own byC 1 tBy w' base (.slice (some i.1) (toBE k n).length i.2) (toBE k n)) rfl hlim ?_ ?_
 ·intro w
  refine (put_ok n k w h1 h2 hn hk).mono ?_
  rintro e w' ⟨v,rfl,ho,hb⟩
  obtain ⟨A,cap,rfl⟩:=ho.form
  obtain ⟨b,off,rfl,_,_⟩:=own_lay ho hne
  exact ⟨(_,cap),_,rfl,rfl,ho,hb⟩
 ·rintro ⟨a,m⟩ base w' _ ho
  refine kk a m _ fun w S hw=>?_
  obtain ⟨b,off,h3,_,h4⟩:=own_lay (snap_own ho hw) hne
  exact ⟨b,off,h3,h4⟩
theorem by_one:∀(a:UInt8),∀u∈byC a,u.oneCell'=true:=fun a u hu=>by_enc.one a u hu
theorem wr_split{v:Value}{l:List UInt8}(w:World)(S:Nat→Prop)(h:(OwnR byC 1 tBy v l).at_ w S):stars [OwnR byC 1 tBy v l,resNil] w S:=
 ⟨S,fun _=>False,h,⟨fun _=>False,fun _=>False,fun _ h=>h,fun _ h=>h,fun _ h _=>h,fun b=>by simp⟩,fun _ _ h=>h,fun b=>by simp⟩
theorem wr_join{v:Value}{l:List UInt8}(w:World)(S:Nat→Prop)(h:stars [OwnR byC 1 tBy v l,resNil] w S):(OwnR byC 1 tBy v l).at_ w S:=by
 obtain ⟨S1,S2,h1,⟨T1,T2,k1,k2,_,hS2⟩,_,hS⟩:=h
 refine ⟨h1.1,fun b=>?_⟩
 rw[hS b,hS2 b]
 have e1:=h1.2 b
 have e2:=k1 b
 have e3:=k2 b
 simp only[e2,e3,or_false]
 exact e1
def wrH(v:Value)(l:List UInt8):List AObj:=[.cells [.lit v] tWr,.res (OwnR byC 1 tBy v l)]
def WrPost(l:List UInt8)(v:AV)(H':List AObj):Prop:=v=undefV∧∃v' d G,d=l∧SlF v' d∧H'=wrH v' d++G
theorem slF_ne{α:Type}{v:Value}{l:List α}(h:SlF v l)(hne:l≠[]):∃A n,v=.slice (some A) l.length n:=by
 rcases h with ⟨_,h⟩|h
 ·exact absurd h hne
 ·exact h
theorem wlong{k n:Nat}{v:Value}{l:List UInt8}(hv:SlF v l)(h1:1≤k)(h2:k≤8)(hn:n<18446744073709551616)(hk:n<256 ^ k)(hl:l.length≤1000000000):CP [] 88 [.ptr 0 0,iA k,uA n] (wrH v l) (WrPost (l++toBE k n)):=by
 have hbl:(toBE k n).length=k:=toBE_len k n
 have hne:toBE k n≠[]:=fun e=>by rw[e] at hbl;simp at hbl;omega
 rcases hv with ⟨rfl,rfl⟩|⟨A,c,rfl⟩
 all_goals
  refine fn_ok ev_ok rfl ?_
  repeat' ((conv=>whnf);first|with_reducible apply brP_of<;>intro _|(refine nput h1 h2 hn hk rfl fun a m R hR=>?_)|(refine OpP.om (OpM.appLR ev_ok app_by byC_len (by decide) by_one (i:=1) (j:=2) (l2:=toBE k n) (R1:=resNil) (R':=fun v'=>OwnR byC 1 tBy v' (_++toBE k n)) rfl rfl rfl hne rfl rfl hR wr_split (fun v'=>wr_join) (by first|omega|(simp only[List.length_nil];omega)) fun v' hv'=>?_);obtain ⟨A',n',rfl⟩:=slF_ne hv' (by simp[hne])))
  all_goals (try conv=>whnf)
  exact ⟨rfl,_,_,_,rfl,hv',rfl⟩
abbrev bs(k:Nat)(x:Int):List UInt8:=toBE k x.toNat
def NumOk(k:Nat)(x:Int):Prop:=0≤x∧x<256 ^ k∧x<9223372036854775808
theorem NumOk.u64{k:Nat}{x:Int}(h:NumOk k x):IntKind.u64.wrap x=((x.toNat:Nat):Int):=by
 have h1:=h.1
 have h2:=h.2.2
 rw[Int.toNat_of_nonneg h1]
 rw[IntKind.wrap_u64]
 omega
theorem NumOk.lt{k:Nat}{x:Int}(h:NumOk k x):x.toNat<256 ^ k:=by
 have h1:=h.1
 have h2:=h.2.1
 have:((x.toNat:Nat):Int)<((256 ^ k:Nat):Int):=by rw[Int.toNat_of_nonneg h1];norm_cast at h2 ⊢
 exact Int.ofNat_lt.1 this
theorem flat_by{α β:Type}{f:α→List β}{k:Nat}(hk:∀a,(f a).length=k):∀l:List α,(l.flatMap f).length=l.length * k
 | []=>by simp
 | a::l=>by rw[List.flatMap_cons,List.length_append,hk,flat_by hk l,List.length_cons,Nat.add_mul];omega
structure WrS where
 i:Nat
 v:Value
theorem wput{k:Nat}{xs:List Int}{v:Value}{l:List UInt8}(hv:SlF v l)(h1:1≤k)(h2:k≤8)(hx:∀x∈xs,NumOk k x)(hn:xs.length≤1000)(hl:l.length≤900000000):CP [] 80 [.ptr 0 0,iA k,.slice 2 0 xs.length (.k xs.length)] (wrH v l++[.row (xs.map iK) 3]) (fun u H'=>u=undefV∧∃v' d G,d=l++xs.flatMap (bs k)∧SlF v' d∧H'=wrH v' d++.row (xs.map iK) 3::G):=by
 refine fn_ok ev_ok rfl ?_
 conv=>whnf
 refine loopP ev_ok rfl (fun s:WrS=>[(0,.ptr 0 0),(1,iA k),(8,.slice 2 0 xs.length (.k xs.length)),(9,iA xs.length),(10,iA (s.i:Nat))]) (fun s=>wrH s.v (l++(xs.take s.i).flatMap (bs k))++[.row (xs.map iK) 3])
  (fun s=>s.i≤xs.length∧SlF s.v (l++(xs.take s.i).flatMap (bs k))) (fun s=>xs.length - s.i) ⟨0,v⟩ ⟨Nat.zero_le _,by simpa using hv⟩ [0,1,2] ?_ ?_
 ·exact ⟨rfl,⟨⟨rfl,rfl⟩,⟨rfl,rfl⟩,⟨rfl,rfl⟩,⟨rfl,rfl⟩,⟨rfl,rfl⟩,tU⟩,⟨⟨_,rfl,rfl⟩,⟨_,rfl,by simp only[List.take_zero,List.flatMap_nil,List.append_nil];exact fun _ _ h=>h⟩,⟨_,rfl,rfl⟩,tU⟩⟩
 ·rintro ⟨i,v⟩ ⟨hi0,hv⟩
  simp only[] at hi0 hv
  by_cases hi:i<xs.length
  ·have hxi:=hx _ (List.getElem_mem hi)
   have hw:=hxi.u64
   have hlen:(l++(xs.take i).flatMap (bs k)).length≤1000000000:=by
    have:((xs.take i).flatMap (bs k)).length=(xs.take i).length * k:=flat_by (fun x:Int=>toBE_len k x.toNat) _
    rw[List.length_append,this,List.length_take]
    have:min i xs.length * k≤1000 * 8:=Nat.mul_le_mul (by omega) h2
    omega
   conv=>whnf
   refine brP_of (fun _=>?_) (noF hi)
   repeat' ((conv=>whnf);first|with_reducible apply brP_of<;>intro _|refine IdxP.of (k:=i) rfl hi ?_|refine RowP.val hi ?_|(refine (wlong (k:=k) (n:=xs[i].toNat) hv h1 h2 (by have:=hxi.2.2;omega) hxi.lt hlen).use [0,1] (by rw[hw];rfl) rfl ⟨⟨_,rfl,rfl⟩,⟨_,rfl,kp⟩,tU⟩ ?_;rintro _ _ ⟨rfl,v',d,G,rfl,hv',rfl⟩;refine ⟨[],?_⟩))
   all_goals (try conv=>whnf)
   have e:l++(xs.take (i+1)).flatMap (bs k)=l++(xs.take i).flatMap (bs k)++toBE k xs[i].toNat:=by
    rw[take_snoc hi,List.flatMap_append,List.append_assoc]
    simp
   refine ⟨⟨i+1,v'⟩,[0,1,2],⟨⟨hi,by show SlF v' (l++(xs.take (i+1)).flatMap (bs k));rw[e];exact hv'⟩,by show xs.length - (i+1)<xs.length - i;omega⟩,rfl,⟨⟨rfl,rfl⟩,⟨rfl,rfl⟩,⟨rfl,rfl⟩,⟨rfl,rfl⟩,⟨rfl,subInt rfl (wrap_in (by dsimp only;omega) (by dsimp only;omega))⟩,tU⟩,⟨⟨_,rfl,rfl⟩,⟨_,rfl,?_⟩,⟨_,rfl,rfl⟩,tU⟩⟩
   show ∀w S,(OwnR byC 1 tBy v' _).at_ w S→(OwnR byC 1 tBy v' (l++(xs.take (i+1)).flatMap (bs k))).at_ w S
   rw[e]
   exact fun _ _ h=>h
  ·obtain rfl:i=xs.length:=by omega
   rw[List.take_length] at hv
   conv=>whnf
   refine brP_of (noT hi) (fun _=>?_)
   repeat' ((conv=>whnf);with_reducible apply brP_of<;>intro _)
   all_goals (try conv=>whnf)
   refine ⟨rfl,v,_,[],rfl,hv,?_⟩
   show wrH v (l++(xs.take xs.length).flatMap (bs k))++[AObj.row (xs.map iK) 3]=_
   rw[List.take_length]
end Go.Proofs.YtmbdghclhpboaaaGreat
