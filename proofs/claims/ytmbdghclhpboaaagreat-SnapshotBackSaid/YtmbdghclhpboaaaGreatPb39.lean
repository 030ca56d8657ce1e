/- Part of the proof: Rdr6 Snw2. Conditions: as each states. -/
import Derived.Test.YtmbdghclhpboaaaGreatPb38
set_option linter.all false
set_option maxRecDepth 100000
namespace Go.Proofs.YtmbdghclhpboaaaGreat
open Ev
def tkPool(tk:List TkS):Res:=Res.star (tk.map fun x=>OwnR tC 10 96 (tkV x) x.l)
theorem tkPool_snoc{tk:List TkS}{x:TkS}(w:World)(S1 S2:Nat→Prop)(h1:(tkPool tk).at_ w S1)(h2:(OwnR tC 10 96 (tkV x) x.l).at_ w S2)(hd:∀b,S1 b→S2 b→False):(tkPool (tk++[x])).at_ w (fun b=>S1 b∨S2 b):=by
 show stars ((tk++[x]).map fun x=>OwnR tC 10 96 (tkV x) x.l) w _
 rw[List.map_append]
 exact stars_append.2 ⟨S1,S2,h1,⟨S2,fun _=>False,h2,fun _ h=>h,fun _ _ h=>h,fun b=>by simp⟩,hd,fun b=>Iff.rfl⟩
theorem tkPool_zero(w:World):(tkPool []).at_ w fun _=>False:=fun _ h=>h
theorem rmemberP{R:Res}{s:Rst}{tk:List TkS}(h:s.Ok R)(hl:s.l.length≤1000000000):CP [] 104 [.ptr 0 0] [rdG s,.res R,.res (tkPool tk)] (fun v H'=>∃m x s' G,s.mem=((m,x.l),s')∧s'.Ok R∧SlF (tkV x) x.l∧v=.tuple [.agg (mA m),.lit (tkV x)]∧H'=rdG s'::.res R::.res (tkPool (tk++[x]))::G):=by
 refine CallS.post (K:=fun v H'=>∃m x s',s.mem=((m,x.l),s')∧s'.Ok R∧SlF (tkV x) x.l∧v=.tuple [.agg (mA m),.lit (tkV x)]∧H'=[rdG s',.res R,.res (tkPool tk),.res (OwnR tC 10 96 (tkV x) x.l)]) ?_ ?_
 ·refine (rmember h hl).use [0,1] rfl rfl ⟨⟨_,rfl,rfl⟩,⟨_,rfl,kp⟩,tU⟩ ?_
  rintro _ _ ⟨m,ts,s',v',G1,G2,G3,G4,G5,G,e1,hs',hv,rfl,rfl⟩
  refine ⟨[7],?_⟩
  obtain ⟨oa,c,rfl⟩:=slF_form hv
  conv=>whnf
  exact ⟨m,⟨oa,c,ts⟩,s',e1,hs',hv,rfl,rfl⟩
 ·rintro _ _ ⟨m,x,s',e1,hs',hv,rfl,rfl⟩
  exact ⟨[rdG s',.res R,.res (tkPool (tk++[x])),.res resNil],Pre.same rfl ((Ent.merge (i:=2) (j:=3) rfl rfl rfl tkPool_snoc).trans (.of_eq rfl)),m,x,s',_,e1,hs',hv,rfl,rfl⟩
def Rst.txt(n:Nat)(s:Rst):List UInt8:=if n≤s.l.length then s.l.take n else []
theorem rtakeS{R:Res}{s:Rst}(h:s.Ok R)(n:Nat):CP [] 109 [.ptr 0 0,iA n] [rdG s,.res R] (fun v H'=>∃tx s' G,s.txt n=tx∧s.take n=s'∧s'.Ok R∧((v=.lit nilV∧tx=[])∨∃b off,v=.lit (.slice (some ⟨b,off,none⟩) tx.length tx.length)∧ByR R b off tx.length tx)∧H'=rdG s'::.res R::G):=by
 refine (rtake h n).use [0] rfl rfl ⟨⟨_,rfl,rfl⟩,tU⟩ ?_
 obtain ⟨tx,htx⟩:∃tx,s.txt n=tx:=⟨_,rfl⟩
 rintro _ _ ⟨rfl,G,rfl⟩
 refine ⟨[],?_⟩
 have hok:=h.take n
 obtain ⟨s',hs'⟩:∃s',s.take n=s':=⟨_,rfl⟩
 rw[hs'] at hok ⊢
 by_cases hn:n≤s.l.length
 ·have e1:takeV n s=.slice s.A n n:=if_pos hn
  have e2:tx=s.l.take n:=by rw[←htx];exact if_pos hn
  have e3:tx.length=n:=by rw[e2,List.length_take];omega
  rw[e1]
  cases hA:s.A with
  | none=>
    obtain ⟨h1,h2⟩:=h.nil hA
    have e4:n=0:=by rw[h1] at hn;simpa using hn
    subst e4
    conv=>whnf
    exact ⟨tx,s',_,htx,rfl,hok,.inl ⟨rfl,List.eq_nil_of_length_eq_zero e3⟩,rfl⟩
  | some a=>
    obtain ⟨b,off,rfl,hb⟩:=h.lie a hA
    conv=>whnf
    refine ⟨tx,s',_,htx,rfl,hok,.inr ⟨b,off,by rw[e3],?_⟩,rfl⟩
    rw[e3,e2]
    exact hb.take hn
 ·have e1:takeV n s=.slice none 0 0:=if_neg hn
  rw[e1]
  conv=>whnf
  exact ⟨tx,s',_,htx,rfl,hok,.inl ⟨rfl,by rw[←htx];exact if_neg hn⟩,rfl⟩
def memsL:Nat→Rst→List (Mem×List Tik)→List (Mem×List Tik)×Rst×Bool
 | 0,s,acc=>(acc,s,false)
 | n+1,s,acc=>if s.mem.2.bad then (acc,s.mem.2,true) else memsL n s.mem.2 (acc++[s.mem.1])
structure StaX where
 ms:List (Mem×List Tik)
 rs:List Rcd
 ss:List Shp
 tx:List UInt8
 es:List Evn
 past:Nat
def Rst.sta(s:Rst):StaX×Rst:=
 let p:=s.num 8
 let n:=p.2.num 2
 let m:=memsL n.1 n.2 []
 if m.2.2 then (⟨m.1,[],[],[],[],p.1⟩,m.2.1) else
  let nr:=m.2.1.num 2
  let rs:=someL Rst.rcd nr.1 nr.2 []
  let ns:=rs.2.num 2
  let ss:=someL Rst.shp ns.1 ns.2 []
  let nt:=ss.2.num 2
  let ne:=(nt.2.take nt.1).num 4
  let es:=someL Rst.evn ne.1 ne.2 []
  (⟨m.1,rs.1,ss.1,nt.2.txt nt.1,es.1,p.1⟩,es.2)
def mL(m:Mem):List Value:=[iK m.user,iK m.role,iK m.tier,iK m.quota,iK m.k,.int .u64 m.area]
theorem mL_len(m:Mem):(mL m).length=6:=rfl
theorem app_mem:AppT ev 22 51 6:=⟨⟨_,rfl,rfl⟩,_,_,rfl,rfl,rfl,rfl,by decide⟩
theorem app_tks:AppT ev 23 52 1:=⟨⟨_,rfl,rfl⟩,_,_,rfl,rfl,rfl,rfl,by decide⟩
def svH2(acc:List (Mem×List Tik))(tk:List TkS):Nat→List AObj
 | 0=>[]
 | _+1=>[.row ((acc.map (·.1)).flatMap mL) 51,.row (tk.map tkV) 52]
def staV(i:Nat)(vr vs:Value)(tx:ByteArray)(ve:Value)(p:Int):List AV:=[svA 5 6 i,svA 6 1 i,.lit vr,.lit vs,.lit (.string tx),.lit ve,iA p]
structure StS where
 i:Nat
 acc:List (Mem×List Tik)
 tk:List TkS
 s:Rst
theorem obRow{xs ys:List Value}{e:TypeId}{g:Nat→Nat}(h:xs=ys):ObE (.row xs e) ((AObj.row ys e).ren g):=by subst h;rfl
theorem ByR.cells{R:Res}{b off c:Nat}{l:List UInt8}(h:ByR R b off c l)(w:World)(S:Nat→Prop)(hw:R.at_ w S)(j:Nat)(hj:j<l.length):w.cell? ((⟨b,off,none⟩:Addr).add j)=some (.int .u8 (l[j].toNat:Int)):=by
 rw[Addr.add_mid]
 exact h.lay w S hw j _ (by rw[by_flat,List.getElem?_eq_getElem hj];rfl)
theorem some_l{α:Type}{one:Rst→α×Rst}(h1:∀s,(one s).2.l.length≤s.l.length):∀(n:Nat) (s:Rst) (acc:List α),(someL one n s acc).2.l.length≤s.l.length
 | 0,s,acc=>Nat.le_refl _
 | n+1,s,acc=>by
   unfold someL
   split
   ·exact h1 s
   ·exact Nat.le_trans (some_l h1 n _ _) (h1 s)
theorem num_l2(k:Nat)(s:Rst):(s.num k).2.l.length≤s.l.length:=num_l (x:=(s.num k).1) (s':=(s.num k).2) rfl
theorem long_l2(k:Nat)(s:Rst):(s.long k).2.l.length≤s.l.length:=long_l (x:=(s.long k).1) (s':=(s.long k).2) rfl
theorem take_l(n:Nat)(s:Rst):(s.take n).l.length≤s.l.length:=by
 unfold Rst.take
 split
 ·simp only[List.length_drop];omega
 ·simp
theorem take_l2{n:Nat}{s s':Rst}(h:s.take n=s'):s'.l.length≤s.l.length:=h ▸ take_l n s
theorem tik_l(s:Rst):s.tik.2.l.length≤s.l.length:=by
 unfold Rst.tik
 simp only[]
 refine Nat.le_trans (num_l2 _ _) ?_
 refine Nat.le_trans (num_l2 _ _) ?_
 refine Nat.le_trans (num_l2 _ _) ?_
 refine Nat.le_trans (num_l2 _ _) ?_
 refine Nat.le_trans (num_l2 _ _) ?_
 simp only[]
 refine Nat.le_trans (num_l2 _ _) ?_
 refine Nat.le_trans (num_l2 _ _) ?_
 refine Nat.le_trans (num_l2 _ _) ?_
 refine Nat.le_trans (long_l2 _ _) ?_
 exact long_l2 _ _
theorem rcd_l(s:Rst):s.rcd.2.l.length≤s.l.length:=by
 unfold Rst.rcd
 simp only[]
 refine Nat.le_trans (num_l2 _ _) ?_
 refine Nat.le_trans (num_l2 _ _) ?_
 refine Nat.le_trans (num_l2 _ _) ?_
 exact num_l2 _ _
theorem evn_l(s:Rst):s.evn.2.l.length≤s.l.length:=by
 unfold Rst.evn
 simp only[]
 refine Nat.le_trans (num_l2 _ _) ?_
 refine Nat.le_trans (num_l2 _ _) ?_
 refine Nat.le_trans (num_l2 _ _) ?_
 exact num_l2 _ _
theorem shp_l(s:Rst):s.shp.2.l.length≤s.l.length:=by
 unfold Rst.shp
 simp only[]
 refine Nat.le_trans (num_l2 _ _) ?_
 refine Nat.le_trans (num_l2 _ _) ?_
 refine Nat.le_trans (num_l2 _ _) ?_
 refine Nat.le_trans (num_l2 _ _) ?_
 refine Nat.le_trans (num_l2 _ _) ?_
 exact num_l2 _ _
theorem some_dn{α:Type}{one:Rst→α×Rst}(h1:∀s,(one s).2.bad=false→s.bad=false):∀(n:Nat) (s:Rst) (acc:List α),(someL one n s acc).2.bad=false→s.bad=false
 | 0,s,acc,h=>h
 | n+1,s,acc,h=>by
   unfold someL at h
   split at h
   ·rename_i hb
    simp only[] at h
    rw[hb] at h
    cases h
   ·exact h1 s (some_dn h1 n _ _ h)
theorem mem_l(s:Rst):s.mem.2.l.length+2≤s.l.length∨s.mem.2.bad=true:=by
 cases hb:s.mem.2.bad with
 | true=>exact .inr rfl
 | false=>
   left
   have hl:s.mem.2.l.length≤(s.num 2).2.l.length:=by
    unfold Rst.mem
    simp only[]
    refine Nat.le_trans (some_l tik_l _ _ _) ?_
    refine Nat.le_trans (num_l2 _ _) ?_
    refine Nat.le_trans (long_l2 _ _) ?_
    refine Nat.le_trans (num_l2 _ _) ?_
    refine Nat.le_trans (num_l2 _ _) ?_
    refine Nat.le_trans (num_l2 _ _) ?_
    exact num_l2 _ _
   unfold Rst.mem at hb
   simp only[] at hb
   obtain ⟨b6,_⟩:=num_dn (some_dn (one:=Rst.tik) (fun s h=>(tik_dn (s:=s) h).1) _ _ _ hb)
   obtain ⟨b5,_⟩:=long_dn b6
   obtain ⟨b4,_⟩:=num_dn b5
   obtain ⟨b3,_⟩:=num_dn b4
   obtain ⟨b2,_⟩:=num_dn b3
   obtain ⟨b1,_⟩:=num_dn b2
   have h0:=(num_dn b1).2
   omega
theorem someE_l{α:Type}{one:Rst→α×Rst}(h1:∀s,(one s).2.l.length≤s.l.length){n:Nat}{s s':Rst}{xs:List α}(h:someL one n s []=(xs,s')):s'.l.length≤s.l.length:=by
 have:=some_l h1 n s []
 rw[h] at this
 exact this
theorem tk_snoc{tk:List TkS}{x:TkS}(h:∀y∈tk,SlF (tkV y) y.l)(hx:SlF (tkV x) x.l):∀y∈tk++[x],SlF (tkV y) y.l:=fun y hy=>by
 rcases List.mem_append.1 hy with hy|hy
 ·exact h y hy
 ·rw[List.mem_singleton.1 hy];exact hx
def StF(s:Rst)(acc:List (Mem×List Tik))(tk tk':List TkS)(s':Rst)(vr vs:Value)(tx:ByteArray)(ve:Value)(p:Int)(rest:List AObj):Prop:=
 (∃x,s'.bad=true∧s.sta=(x,s')∧vr=nilV∧vs=nilV∧ve=nilV) ∨
 ∃rs ss t es p' G,s.sta=(⟨acc,rs,ss,t,es,p'⟩,s')∧acc.map (·.2)=tk.map TkS.l∧(∀x∈tk,SlF (tkV x) x.l)∧tk'=tk∧SlF vr rs∧SlF vs ss∧SlF ve es∧tx=⟨t.toArray⟩∧p=(p':Nat)∧rest=.res (OwnR rcL 4 72 vr rs)::.res (OwnR shL 6 78 vs ss)::.res (OwnR evL 4 81 ve es)::G
def StP0(R:Res)(s:Rst)(v:AV)(H':List AObj):Prop:=∃i acc tk tk' s' vr vs tx ve p A B rest,acc.length=i∧tk.length=i∧s'.Ok R∧StF s acc tk tk' s' vr vs tx ve p rest∧v=.agg (staV i vr vs tx ve p)∧H'=rdG s'::.res R::.res (tkPool tk')::A::B::svH2 acc tk i++rest
theorem rstate0{R:Res}{s:Rst}(h:s.Ok R)(hl:s.l.length≤1000000000):CP [] 39 [.ptr 0 0] [rdG s,.res R,.res (tkPool [])] (StP0 R s):=by
 refine fn_ok ev_ok rfl ?_
 refine FnW.of rfl rfl ?_
 refine WpC.seqG fun F hF=>?_
 repeat' ((conv=>whnf);first|with_reducible apply brP_of<;>intro _|refine WpS.drawn ev_ok rfl rfl ?_|with_reducible refine And.intro (AgP.mk ⟨_,rfl,rfl⟩) ?_|(refine (rinto1 (k:=8) (j0:=6) (cs:=[.lit nilV,.lit nilV,.lit nilV,.lit nilV,.lit (.string ⟨#[]⟩),.lit nilV,iA 0]) (T:=28) (P:=189) h (by decide) (by decide) (by simp) (fun _=>rfl)).use [0,1,4,5] rfl rfl ⟨⟨_,rfl,rfl⟩,⟨_,rfl,kp⟩,⟨_,rfl,rfl⟩,⟨_,rfl,rfl⟩,tU⟩ ?_;rintro _ _ ⟨x0,s1,G1,e0,h1,rfl,rfl⟩;refine ⟨[],?_⟩)|(refine (rnumE (k:=2) h1 (by decide) (by decide)).use [0,1] rfl rfl ⟨⟨_,rfl,rfl⟩,⟨_,rfl,kp⟩,tU⟩ ?_;rintro _ _ ⟨x1,s2,G2,e1,h2,rfl,rfl⟩;refine ⟨[],?_⟩)|(show F _ _ _;subst hF;refine WpC.seqG fun F hF=>?_)|(show F _ _ _;subst hF))
 conv=>whnf
 refine loopP ev_ok rfl (fun q:StS=>[(0,.ptr 0 0),(2,.ptr 3 0),(3,.ptr 4 0),(11,iA (x1:Nat)),(12,iA (q.i:Nat))]) (fun q=>[rdG q.s,.res R,.res (tkPool q.tk),.cells [.lit nilV,.lit nilV,.lit nilV,.lit nilV,.lit (.string ⟨#[]⟩),.lit nilV,iA 0] 28,.cells [svA 5 6 q.i,svA 6 1 q.i,.lit nilV,.lit nilV,.lit (.string ⟨#[]⟩),.lit nilV,iA (x0:Nat)] 28]++svH2 q.acc q.tk q.i)
  (fun q=>q.i≤x1∧q.acc.length=q.i∧q.s.Ok R∧q.acc.map (·.2)=q.tk.map TkS.l∧memsL x1 s2 []=memsL (x1 - q.i) q.s q.acc∧q.i+q.s.l.length≤1000000000∧∀x∈q.tk,SlF (tkV x) x.l) (fun q=>x1 - q.i) ⟨0,[],[],s2⟩ ⟨Nat.zero_le _,rfl,h2,rfl,rfl,by have:=num_l e0;have:=num_l e1;simp only[];omega,fun x hx=>by cases hx⟩ [0,1,2,3,4] ?_ ?_
 ·exact ⟨rfl,⟨⟨rfl,rfl⟩,⟨rfl,rfl⟩,⟨rfl,rfl⟩,⟨rfl,rfl⟩,⟨rfl,rfl⟩,tU⟩,⟨⟨_,rfl,rfl⟩,⟨_,rfl,kp⟩,⟨_,rfl,kp⟩,⟨_,rfl,rfl⟩,⟨_,rfl,rfl⟩,tU⟩⟩
 ·rintro ⟨i,acc,tk,s3⟩ ⟨hi0,hacc,h3,heq,hm,hlen,htk⟩
  simp only[] at hi0 hacc h3 heq hm hlen htk
  have hx1:=num_b e1
  have htl:tk.length=i:=by
   have:=congrArg List.length heq
   simp only[List.length_map] at this
   omega
  by_cases hi:i<x1
  ·have en:x1 - i=(x1 - (i+1))+1:=by omega
   rw[en,memsL] at hm
   have hgo:∀(b:Bool) (m:Mem) (x:TkS) (s':Rst),s3.mem=((m,x.l),s')→s'.bad=b→(b=true→s.sta=(⟨acc,[],[],[],[],x0⟩,s'))∧(b=false→memsL x1 s2 []=memsL (x1 - (i+1)) s' (acc++[(m,x.l)])∧(i+1)+s'.l.length≤1000000000∧(acc++[(m,x.l)]).map (·.2)=(tk++[x]).map TkS.l):=fun b m x s' e1' e2=>by
    rw[e1'] at hm
    simp only[] at hm
    refine ⟨fun hb=>?_,fun hb=>?_⟩
    ·rw[e2,hb] at hm
     simp only[Rst.sta,e0,e1,hm]
     rfl
    ·rw[e2,hb] at hm
     have h5:=(mem_l s3).resolve_right (by rw[e1',e2,hb];decide)
     rw[e1'] at h5
     simp only[] at h5
     exact ⟨hm,by omega,by rw[List.map_append,List.map_append,heq];rfl⟩
   rcases i with _|i
   ·obtain rfl:=List.eq_nil_of_length_eq_zero hacc
    obtain rfl:=List.eq_nil_of_length_eq_zero htl
    conv=>whnf
    refine brP_of (fun _=>?_) (noF hi)
    repeat' ((conv=>whnf);first|with_reducible apply brP_of<;>intro _|refine WpS.drawn ev_ok rfl rfl ?_|with_reducible refine And.intro (AgP.mk ⟨_,rfl,rfl⟩) ?_|(refine (rmemberP (tk:=[]) h3 (by omega)).use [0,1,2] rfl rfl ⟨⟨_,rfl,rfl⟩,⟨_,rfl,kp⟩,⟨_,rfl,kp⟩,tU⟩ ?_;rintro _ _ ⟨m,x,s4,G4,e4,h4,hx,rfl,rfl⟩;refine ⟨[],?_⟩)|refine WpS.drawn ev_ok rfl rfl ?_|refine AppP.nil app_mem rfl rfl rfl rfl rfl ?_|refine AppP.nil app_tks rfl rfl rfl rfl rfl ?_)
    all_goals (try conv=>whnf)
    ·rename_i hb
     exact ⟨0,[],[],_,s4,_,_,_,_,_,_,_,_,rfl,rfl,h4,.inl ⟨_,hb,(hgo _ m x s4 e4 hb).1 rfl,rfl,rfl,rfl⟩,rfl,rfl⟩
    ·rename_i hb
     obtain ⟨k1,k2,k3⟩:=(hgo _ m x s4 e4 hb).2 rfl
     exact ⟨⟨1,[]++[(m,x.l)],[]++[x],s4⟩,[0,1,2,3,4,8,9],⟨⟨hi,rfl,h4,k3,k1,k2,tk_snoc htk hx⟩,by show x1 - (0+1)<x1 - 0;omega⟩,rfl,⟨⟨rfl,rfl⟩,⟨rfl,rfl⟩,⟨rfl,rfl⟩,⟨rfl,rfl⟩,⟨rfl,subInt rfl (wrap_in (by dsimp only;omega) (by dsimp only;omega))⟩,tU⟩,⟨⟨_,rfl,rfl⟩,⟨_,rfl,kp⟩,⟨_,rfl,kp⟩,⟨_,rfl,rfl⟩,⟨_,rfl,rfl⟩,⟨_,rfl,rfl⟩,⟨_,rfl,rfl⟩,tU⟩⟩
   ·conv=>whnf
    refine brP_of (fun _=>?_) (noF hi)
    repeat' ((conv=>whnf);first|with_reducible apply brP_of<;>intro _|refine WpS.drawn ev_ok rfl rfl ?_|with_reducible refine And.intro (AgP.mk ⟨_,rfl,rfl⟩) ?_|(refine (rmemberP (tk:=tk) h3 (by omega)).use [0,1,2] rfl rfl ⟨⟨_,rfl,rfl⟩,⟨_,rfl,kp⟩,⟨_,rfl,kp⟩,tU⟩ ?_;rintro _ _ ⟨m,x,s4,G4,e4,h4,hx,rfl,rfl⟩;refine ⟨[],?_⟩)|refine WpS.drawn ev_ok rfl rfl ?_|refine AppP.own app_mem rfl rfl rfl rfl rfl rfl (by dsimp only;rw[flat_len mL_len,List.length_map];omega) (by omega) ?_|refine AppP.own app_tks rfl rfl rfl rfl rfl rfl (by dsimp only;rw[List.length_map];omega) (by omega) ?_)
    all_goals (try conv=>whnf)
    ·rename_i hb
     exact ⟨i+1,acc,tk,_,s4,_,_,_,_,_,_,_,_,hacc,htl,h4,.inl ⟨_,hb,(hgo _ m x s4 e4 hb).1 rfl,rfl,rfl,rfl⟩,rfl,rfl⟩
    ·rename_i hb
     obtain ⟨k1,k2,k3⟩:=(hgo _ m x s4 e4 hb).2 rfl
     exact ⟨⟨i+1+1,acc++[(m,x.l)],tk++[x],s4⟩,[0,1,2,3,4,10,11],⟨⟨hi,by simp[hacc],h4,k3,k1,k2,tk_snoc htk hx⟩,by show x1 - (i+1+1)<x1 - (i+1);omega⟩,rfl,⟨⟨rfl,rfl⟩,⟨rfl,rfl⟩,⟨rfl,rfl⟩,⟨rfl,rfl⟩,⟨rfl,subInt rfl (wrap_in (by dsimp only;omega) (by dsimp only;omega))⟩,tU⟩,⟨⟨_,rfl,rfl⟩,⟨_,rfl,kp⟩,⟨_,rfl,kp⟩,⟨_,rfl,rfl⟩,⟨_,rfl,rfl⟩,⟨_,rfl,obRow (by rw[List.map_append,List.flatMap_append];rfl)⟩,⟨_,rfl,obRow (by rw[List.map_append];rfl)⟩,tU⟩⟩
  ·rw[show x1 - i=0 by omega,memsL] at hm
   have hsta:∀{y0 y1 y2 y3:Nat} {s4 s5 s6 s7 s8 s9 s10 s11:Rst} {rs:List Rcd} {ss:List Shp} {es:List Evn} {tx:List UInt8} (f0:s3.num 2=(y0,s4)) (f1:someL Rst.rcd y0 s4 []=(rs,s5)) (f2:s5.num 2=(y1,s6)) (f3:someL Rst.shp y1 s6 []=(ss,s7)) (f4:s7.num 2=(y2,s8)) (f5:s8.txt y2=tx) (f6:s8.take y2=s9) (f7:s9.num 4=(y3,s10)) (f8:someL Rst.evn y3 s10 []=(es,s11)),s.sta=(⟨acc,rs,ss,tx,es,x0⟩,s11):=fun f0 f1 f2 f3 f4 f5 f6 f7 f8=>by
    simp only[Rst.sta,e0,e1,hm,f0,f1,f2,f3,f4,f5,f6,f7,f8]
    rfl
   rcases i with _|i
   ·conv=>whnf
    refine brP_of (noT hi) (fun _=>?_)
    repeat' ((conv=>whnf);first|with_reducible apply brP_of<;>intro _|refine WpS.drawn ev_ok rfl rfl ?_|with_reducible refine And.intro (AgP.mk ⟨_,rfl,rfl⟩) ?_|(refine (rnumE (k:=2) h3 (by decide) (by decide)).use [0,1] rfl rfl ⟨⟨_,rfl,rfl⟩,⟨_,rfl,kp⟩,tU⟩ ?_;rintro _ _ ⟨y0,s4,G4,f0,h4,rfl,rfl⟩;refine ⟨[],?_⟩)|(refine (rsomeR (n:=y0) h4 (by have:=num_l f0;omega) (num_b f0)).use [0,1] rfl rfl ⟨⟨_,rfl,rfl⟩,⟨_,rfl,kp⟩,tU⟩ ?_;rintro _ _ ⟨rs,s5,vr,G5,f1,h5,hvr,rfl,rfl⟩;refine ⟨[2],?_⟩;obtain ⟨ar,cr,rfl⟩:=slF_form hvr)|(refine (rnumE (k:=2) h5 (by decide) (by decide)).use [0,1] rfl rfl ⟨⟨_,rfl,rfl⟩,⟨_,rfl,kp⟩,tU⟩ ?_;rintro _ _ ⟨y1,s6,G6,f2,h6,rfl,rfl⟩;refine ⟨[],?_⟩)|(refine (rsomeS (n:=y1) h6 (by have:=num_l f0;have:=someE_l rcd_l f1;have:=num_l f2;omega) (num_b f2)).use [0,1] rfl rfl ⟨⟨_,rfl,rfl⟩,⟨_,rfl,kp⟩,tU⟩ ?_;rintro _ _ ⟨ss,s7,vs,G7,f3,h7,hvs,rfl,rfl⟩;refine ⟨[2],?_⟩;obtain ⟨asx,cs,rfl⟩:=slF_form hvs)|(refine (rnumE (k:=2) h7 (by decide) (by decide)).use [0,1] rfl rfl ⟨⟨_,rfl,rfl⟩,⟨_,rfl,kp⟩,tU⟩ ?_;rintro _ _ ⟨y2,s8,G8,f4,h8,rfl,rfl⟩;refine ⟨[],?_⟩)|(refine (rtakeS h8 y2).use [0,1] rfl rfl ⟨⟨_,rfl,rfl⟩,⟨_,rfl,kp⟩,tU⟩ ?_;rintro _ _ ⟨tx,s9,G9,f5,f6,h9,(⟨rfl,htx⟩|⟨b,off,rfl,hby⟩),rfl⟩<;>refine ⟨[],?_⟩)|refine OpP.bytesStr ev_ok rfl rfl rfl rfl rfl rfl rfl rfl (i:=1) rfl hby.cells ?_|(refine (rnumE (k:=4) h9 (by decide) (by decide)).use [0,1] rfl rfl ⟨⟨_,rfl,rfl⟩,⟨_,rfl,kp⟩,tU⟩ ?_;rintro _ _ ⟨y3,s10,G10,f7,h10,rfl,rfl⟩;refine ⟨[],?_⟩)|(refine (rsomeE (n:=y3) h10 (by have:=num_l f0;have:=someE_l rcd_l f1;have:=num_l f2;have:=someE_l shp_l f3;have:=num_l f4;have:=take_l2 f6;have:=num_l f7;omega) (num_b f7)).use [0,1] rfl rfl ⟨⟨_,rfl,rfl⟩,⟨_,rfl,kp⟩,tU⟩ ?_;rintro _ _ ⟨es,s11,ve,G11,f8,h11,hve,rfl,rfl⟩;refine ⟨[2],?_⟩;obtain ⟨ae,ce,rfl⟩:=slF_form hve)|(show F _ _ _;subst hF;refine WpC.seqG fun F hF=>?_)|(show F _ _ _;subst hF))
    all_goals (try conv=>whnf)
    ·subst htx
     exact ⟨0,acc,tk,_,s11,_,_,⟨([]:List UInt8).toArray⟩,_,_,_,_,_,hacc,htl,h11,.inr ⟨rs,ss,[],es,x0,[],hsta f0 f1 f2 f3 f4 f5 f6 f7 f8,heq,htk,rfl,hvr,hvs,hve,rfl,rfl,rfl⟩,rfl,rfl⟩
    ·exact ⟨0,acc,tk,_,s11,_,_,⟨(tx:List UInt8).toArray⟩,_,_,_,_,_,hacc,htl,h11,.inr ⟨rs,ss,tx,es,x0,[],hsta f0 f1 f2 f3 f4 f5 f6 f7 f8,heq,htk,rfl,hvr,hvs,hve,rfl,rfl,rfl⟩,rfl,rfl⟩
   ·conv=>whnf
    refine brP_of (noT hi) (fun _=>?_)
    repeat' ((conv=>whnf);first|with_reducible apply brP_of<;>intro _|refine WpS.drawn ev_ok rfl rfl ?_|with_reducible refine And.intro (AgP.mk ⟨_,rfl,rfl⟩) ?_|(refine (rnumE (k:=2) h3 (by decide) (by decide)).use [0,1] rfl rfl ⟨⟨_,rfl,rfl⟩,⟨_,rfl,kp⟩,tU⟩ ?_;rintro _ _ ⟨y0,s4,G4,f0,h4,rfl,rfl⟩;refine ⟨[],?_⟩)|(refine (rsomeR (n:=y0) h4 (by have:=num_l f0;omega) (num_b f0)).use [0,1] rfl rfl ⟨⟨_,rfl,rfl⟩,⟨_,rfl,kp⟩,tU⟩ ?_;rintro _ _ ⟨rs,s5,vr,G5,f1,h5,hvr,rfl,rfl⟩;refine ⟨[2],?_⟩;obtain ⟨ar,cr,rfl⟩:=slF_form hvr)|(refine (rnumE (k:=2) h5 (by decide) (by decide)).use [0,1] rfl rfl ⟨⟨_,rfl,rfl⟩,⟨_,rfl,kp⟩,tU⟩ ?_;rintro _ _ ⟨y1,s6,G6,f2,h6,rfl,rfl⟩;refine ⟨[],?_⟩)|(refine (rsomeS (n:=y1) h6 (by have:=num_l f0;have:=someE_l rcd_l f1;have:=num_l f2;omega) (num_b f2)).use [0,1] rfl rfl ⟨⟨_,rfl,rfl⟩,⟨_,rfl,kp⟩,tU⟩ ?_;rintro _ _ ⟨ss,s7,vs,G7,f3,h7,hvs,rfl,rfl⟩;refine ⟨[2],?_⟩;obtain ⟨asx,cs,rfl⟩:=slF_form hvs)|(refine (rnumE (k:=2) h7 (by decide) (by decide)).use [0,1] rfl rfl ⟨⟨_,rfl,rfl⟩,⟨_,rfl,kp⟩,tU⟩ ?_;rintro _ _ ⟨y2,s8,G8,f4,h8,rfl,rfl⟩;refine ⟨[],?_⟩)|(refine (rtakeS h8 y2).use [0,1] rfl rfl ⟨⟨_,rfl,rfl⟩,⟨_,rfl,kp⟩,tU⟩ ?_;rintro _ _ ⟨tx,s9,G9,f5,f6,h9,(⟨rfl,htx⟩|⟨b,off,rfl,hby⟩),rfl⟩<;>refine ⟨[],?_⟩)|refine OpP.bytesStr ev_ok rfl rfl rfl rfl rfl rfl rfl rfl (i:=1) rfl hby.cells ?_|(refine (rnumE (k:=4) h9 (by decide) (by decide)).use [0,1] rfl rfl ⟨⟨_,rfl,rfl⟩,⟨_,rfl,kp⟩,tU⟩ ?_;rintro _ _ ⟨y3,s10,G10,f7,h10,rfl,rfl⟩;refine ⟨[],?_⟩)|(refine (rsomeE (n:=y3) h10 (by have:=num_l f0;have:=someE_l rcd_l f1;have:=num_l f2;have:=someE_l shp_l f3;have:=num_l f4;have:=take_l2 f6;have:=num_l f7;omega) (num_b f7)).use [0,1] rfl rfl ⟨⟨_,rfl,rfl⟩,⟨_,rfl,kp⟩,tU⟩ ?_;rintro _ _ ⟨es,s11,ve,G11,f8,h11,hve,rfl,rfl⟩;refine ⟨[2],?_⟩;obtain ⟨ae,ce,rfl⟩:=slF_form hve)|(show F _ _ _;subst hF;refine WpC.seqG fun F hF=>?_)|(show F _ _ _;subst hF))
    all_goals (try conv=>whnf)
    ·subst htx
     exact ⟨i+1,acc,tk,_,s11,_,_,⟨([]:List UInt8).toArray⟩,_,_,_,_,_,hacc,htl,h11,.inr ⟨rs,ss,[],es,x0,[],hsta f0 f1 f2 f3 f4 f5 f6 f7 f8,heq,htk,rfl,hvr,hvs,hve,rfl,rfl,rfl⟩,rfl,rfl⟩
    ·exact ⟨i+1,acc,tk,_,s11,_,_,⟨(tx:List UInt8).toArray⟩,_,_,_,_,_,hacc,htl,h11,.inr ⟨rs,ss,tx,es,x0,[],hsta f0 f1 f2 f3 f4 f5 f6 f7 f8,heq,htk,rfl,hvr,hvs,hve,rfl,rfl,rfl⟩,rfl,rfl⟩
def wB(ps:List (Nat×List Int)):List UInt8:=ps.flatMap fun p=>p.2.flatMap (bs p.1)
def wOk(ps:List (Nat×List Int)):Prop:=∀p∈ps,∀x∈p.2,NumOk p.1 x
theorem len_put{l:List UInt8}{k:Nat}{xs:List Int}:(l++xs.flatMap (bs k)).length=l.length+xs.length * k:=by
 rw[List.length_append,flat_by (fun x:Int=>toBE_len k x.toNat)]
theorem len_long{l:List UInt8}{k n:Nat}:(l++toBE k n).length=l.length+k:=by rw[List.length_append,toBE_len]
theorem pow8{n:Nat}(h:n<18446744073709551616):n<256 ^ 8:=Nat.lt_of_lt_of_eq h (by decide)
theorem WrPost.to{l l':List UInt8}{v:AV}{H':List AObj}(h:WrPost l v H')(e:l=l'):WrPost l' v H':=e ▸ h
def rectP(x0 y0 x1 y1:Int):List (Nat×List Int):=[(2,[x0,y0,x1,y1])]
theorem len_rect{l:List UInt8}{x0 y0 x1 y1:Int}:(l++wB (rectP x0 y0 x1 y1)).length=l.length+8:=by
 have e:wB (rectP x0 y0 x1 y1)=[x0,y0,x1,y1].flatMap (bs 2):=by simp[wB,rectP]
 rw[e,len_put]
 rfl
theorem wrect{x0 y0 x1 y1:Int}{v:Value}{l L:List UInt8}(hv:SlF v l)(h:wOk (rectP x0 y0 x1 y1))(hl:l.length≤850000000)(hL:l++wB (rectP x0 y0 x1 y1)=L):CP [] 164 [.ptr 0 0,.agg [iA x0,iA y0,iA x1,iA y1]] (wrH v l) (WrPost L):=by
 have q0:∀x∈[x0,y0,x1,y1],NumOk 2 x:=h (2,_) (by simp[rectP])
 refine fn_ok ev_ok rfl ?_
 refine FnW.of rfl rfl ?_
 refine WpC.seqG fun F hF=>?_
 repeat' ((conv=>whnf);first|with_reducible apply brP_of<;>intro _|(refine (wput (k:=2) (xs:=[x0,y0,x1,y1]) (by assumption) (by decide) (by decide) q0 (by simp) (by omega)).use [0,1,3] rfl rfl ⟨⟨_,rfl,rfl⟩,⟨_,rfl,kp⟩,⟨_,rfl,rfl⟩,tU⟩ ?_;rintro _ _ ⟨rfl,v',d,G,hd,hv',rfl⟩;have hdl:=congrArg List.length hd;simp only[len_put,len_long,List.length_cons,List.length_nil] at hdl;refine ⟨[],?_⟩)|(subst hF;refine WpC.seqG fun F hF=>?_)|subst hF)
 all_goals (try conv=>whnf)
 all_goals refine WrPost.to ⟨rfl,_,_,_,rfl,by assumption,rfl⟩ ?_
 all_goals rw[←hL]
 all_goals clear hL
 all_goals subst_vars
 all_goals simp[wB,rectP,rectP,List.append_assoc]
def recP(r:Rcd):List (Nat×List Int):=[(2,[r.id,r.x,r.y]),(1,[r.label])]
theorem wrecord{r:Rcd}{v:Value}{l L:List UInt8}(hv:SlF v l)(h:wOk (recP r))(hl:l.length≤800000000)(hL:l++wB (recP r)=L):CP [] 83 [.ptr 0 0,.agg (rcdA r)] (wrH v l) (WrPost L):=by
 have q0:∀x∈[r.id,r.x,r.y],NumOk 2 x:=h (2,_) (by simp[recP])
 have q1:∀x∈[r.label],NumOk 1 x:=h (1,_) (by simp[recP])
 refine fn_ok ev_ok rfl ?_
 refine FnW.of rfl rfl ?_
 refine WpC.seqG fun F hF=>?_
 repeat' ((conv=>whnf);first|with_reducible apply brP_of<;>intro _|(refine (wput (k:=2) (xs:=[r.id,r.x,r.y]) (by assumption) (by decide) (by decide) q0 (by simp) (by omega)).use [0,1,3] rfl rfl ⟨⟨_,rfl,rfl⟩,⟨_,rfl,kp⟩,⟨_,rfl,rfl⟩,tU⟩ ?_;rintro _ _ ⟨rfl,v',d,G,hd,hv',rfl⟩;have hdl:=congrArg List.length hd;simp only[len_put,len_long,len_rect,List.length_cons,List.length_nil] at hdl;refine ⟨[],?_⟩)|(refine (wput (k:=1) (xs:=[r.label]) (by assumption) (by decide) (by decide) q1 (by simp) (by omega)).use [0,1,4] rfl rfl ⟨⟨_,rfl,rfl⟩,⟨_,rfl,kp⟩,⟨_,rfl,rfl⟩,tU⟩ ?_;rintro _ _ ⟨rfl,v',d,G,hd,hv',rfl⟩;have hdl:=congrArg List.length hd;simp only[len_put,len_long,len_rect,List.length_cons,List.length_nil] at hdl;refine ⟨[],?_⟩)|(subst hF;refine WpC.seqG fun F hF=>?_)|subst hF)
 all_goals (try conv=>whnf)
 all_goals refine WrPost.to ⟨rfl,_,_,_,rfl,by assumption,rfl⟩ ?_
 all_goals rw[←hL]
 all_goals clear hL
 all_goals subst_vars
 all_goals simp[wB,recP,rectP,List.append_assoc]
def shpP(s:Shp):List (Nat×List Int):=[(2,[s.id]),(2,[s.x0,s.y0,s.x1,s.y1]),(1,[s.label])]
theorem wshape{s:Shp}{v:Value}{l L:List UInt8}(hv:SlF v l)(h:wOk (shpP s))(hl:l.length≤800000000)(hL:l++wB (shpP s)=L):CP [] 85 [.ptr 0 0,.agg (shpA s)] (wrH v l) (WrPost L):=by
 have q0:∀x∈[s.id],NumOk 2 x:=h (2,_) (by simp[shpP])
 have q1:wOk (rectP s.x0 s.y0 s.x1 s.y1):=fun p hp=>h p (by rw[List.mem_singleton.1 hp];simp[shpP])
 have q2:∀x∈[s.label],NumOk 1 x:=h (1,_) (by simp[shpP])
 refine fn_ok ev_ok rfl ?_
 refine FnW.of rfl rfl ?_
 refine WpC.seqG fun F hF=>?_
 repeat' ((conv=>whnf);first|with_reducible apply brP_of<;>intro _|(refine (wput (k:=2) (xs:=[s.id]) (by assumption) (by decide) (by decide) q0 (by simp) (by omega)).use [0,1,3] rfl rfl ⟨⟨_,rfl,rfl⟩,⟨_,rfl,kp⟩,⟨_,rfl,rfl⟩,tU⟩ ?_;rintro _ _ ⟨rfl,v',d,G,hd,hv',rfl⟩;have hdl:=congrArg List.length hd;simp only[len_put,len_long,len_rect,List.length_cons,List.length_nil] at hdl;refine ⟨[],?_⟩)|(refine (wrect (x0:=s.x0) (y0:=s.y0) (x1:=s.x1) (y1:=s.y1) (by assumption) q1 (by omega) rfl).use [0,1] rfl rfl ⟨⟨_,rfl,rfl⟩,⟨_,rfl,kp⟩,tU⟩ ?_;rintro _ _ ⟨rfl,v',d,G,hd,hv',rfl⟩;have hdl:=congrArg List.length hd;simp only[len_put,len_long,len_rect,List.length_cons,List.length_nil] at hdl;refine ⟨[],?_⟩)|(refine (wput (k:=1) (xs:=[s.label]) (by assumption) (by decide) (by decide) q2 (by simp) (by omega)).use [0,1,4] rfl rfl ⟨⟨_,rfl,rfl⟩,⟨_,rfl,kp⟩,⟨_,rfl,rfl⟩,tU⟩ ?_;rintro _ _ ⟨rfl,v',d,G,hd,hv',rfl⟩;have hdl:=congrArg List.length hd;simp only[len_put,len_long,len_rect,List.length_cons,List.length_nil] at hdl;refine ⟨[],?_⟩)|(subst hF;refine WpC.seqG fun F hF=>?_)|subst hF)
 all_goals (try conv=>whnf)
 all_goals refine WrPost.to ⟨rfl,_,_,_,rfl,by assumption,rfl⟩ ?_
 all_goals rw[←hL]
 all_goals clear hL
 all_goals subst_vars
 all_goals simp[wB,shpP,rectP,List.append_assoc]
def evnP(e:Evn):List (Nat×List Int):=[(2,[e.user]),(1,[e.op,e.status]),(4,[e.tick])]
theorem wevent{e:Evn}{v:Value}{l L:List UInt8}(hv:SlF v l)(h:wOk (evnP e))(hl:l.length≤800000000)(hL:l++wB (evnP e)=L):CP [] 87 [.ptr 0 0,.agg (evA e)] (wrH v l) (WrPost L):=by
 have q0:∀x∈[e.user],NumOk 2 x:=h (2,_) (by simp[evnP])
 have q1:∀x∈[e.op,e.status],NumOk 1 x:=h (1,_) (by simp[evnP])
 have q2:∀x∈[e.tick],NumOk 4 x:=h (4,_) (by simp[evnP])
 refine fn_ok ev_ok rfl ?_
 refine FnW.of rfl rfl ?_
 refine WpC.seqG fun F hF=>?_
 repeat' ((conv=>whnf);first|with_reducible apply brP_of<;>intro _|(refine (wput (k:=2) (xs:=[e.user]) (by assumption) (by decide) (by decide) q0 (by simp) (by omega)).use [0,1,3] rfl rfl ⟨⟨_,rfl,rfl⟩,⟨_,rfl,kp⟩,⟨_,rfl,rfl⟩,tU⟩ ?_;rintro _ _ ⟨rfl,v',d,G,hd,hv',rfl⟩;have hdl:=congrArg List.length hd;simp only[len_put,len_long,len_rect,List.length_cons,List.length_nil] at hdl;refine ⟨[],?_⟩)|(refine (wput (k:=1) (xs:=[e.op,e.status]) (by assumption) (by decide) (by decide) q1 (by simp) (by omega)).use [0,1,4] rfl rfl ⟨⟨_,rfl,rfl⟩,⟨_,rfl,kp⟩,⟨_,rfl,rfl⟩,tU⟩ ?_;rintro _ _ ⟨rfl,v',d,G,hd,hv',rfl⟩;have hdl:=congrArg List.length hd;simp only[len_put,len_long,len_rect,List.length_cons,List.length_nil] at hdl;refine ⟨[],?_⟩)|(refine (wput (k:=4) (xs:=[e.tick]) (by assumption) (by decide) (by decide) q2 (by simp) (by omega)).use [0,1,5] rfl rfl ⟨⟨_,rfl,rfl⟩,⟨_,rfl,kp⟩,⟨_,rfl,rfl⟩,tU⟩ ?_;rintro _ _ ⟨rfl,v',d,G,hd,hv',rfl⟩;have hdl:=congrArg List.length hd;simp only[len_put,len_long,len_rect,List.length_cons,List.length_nil] at hdl;refine ⟨[],?_⟩)|(subst hF;refine WpC.seqG fun F hF=>?_)|subst hF)
 all_goals (try conv=>whnf)
 all_goals refine WrPost.to ⟨rfl,_,_,_,rfl,by assumption,rfl⟩ ?_
 all_goals rw[←hL]
 all_goals clear hL
 all_goals subst_vars
 all_goals simp[wB,evnP,rectP,List.append_assoc]
def voidI(b:Bool):Int:=if b then 1 else 0
def tikP(k:Tik):List (Nat×List Int):=[(1,[k.g.ops,k.g.zoom,voidI k.g.void]),(2,[k.g.x0,k.g.y0,k.g.x1,k.g.y1]),(4,[k.g.till])]
def tikA'(k:Tik):List AV:=[uA k.secret,uA k.parent,iA k.g.ops,iA k.g.zoom,iA k.g.x0,iA k.g.y0,iA k.g.x1,iA k.g.y1,bA k.g.void,iA k.g.till]
theorem wticket_true{k:Tik}{v:Value}{l L:List UInt8}(hv:SlF v l)(h:wOk (tikP k))(hs:k.secret<18446744073709551616)(hp:k.parent<18446744073709551616)(hb:k.g.void=true)(hl:l.length≤800000000)(hL:l++(toBE 8 k.secret++toBE 8 k.parent++wB (tikP k))=L):CP [] 163 [.ptr 0 0,.agg (tikA' k)] (wrH v l) (WrPost L):=by
 have q0:∀x∈[k.g.ops,k.g.zoom,1],NumOk 1 x:=by
  have:=h (1,[k.g.ops,k.g.zoom,voidI k.g.void]) (by simp[tikP])
  rw[hb] at this
  exact this
 have q1:wOk (rectP k.g.x0 k.g.y0 k.g.x1 k.g.y1):=fun p hp=>h p (by rw[List.mem_singleton.1 hp];simp[tikP])
 have q2:∀x∈[k.g.till],NumOk 4 x:=h (4,_) (by simp[tikP])
 unfold tikA'
 rw[hb]
 refine fn_ok ev_ok rfl ?_
 refine FnW.of rfl rfl ?_
 refine WpC.seqG fun F hF=>?_
 repeat' ((conv=>whnf);first|with_reducible apply brP_of<;>intro _|(refine (wlong (k:=8) (n:=k.secret) (by assumption) (by decide) (by decide) hs (pow8 hs) (by clear hs hp;omega)).use [0,1] rfl rfl ⟨⟨_,rfl,rfl⟩,⟨_,rfl,kp⟩,tU⟩ ?_;rintro _ _ ⟨rfl,v',d,G,hd,hv',rfl⟩;have hdl:=congrArg List.length hd;simp only[len_put,len_long,len_rect,List.length_cons,List.length_nil] at hdl;refine ⟨[],?_⟩)|(refine (wlong (k:=8) (n:=k.parent) (by assumption) (by decide) (by decide) hp (pow8 hp) (by clear hs hp;omega)).use [0,1] rfl rfl ⟨⟨_,rfl,rfl⟩,⟨_,rfl,kp⟩,tU⟩ ?_;rintro _ _ ⟨rfl,v',d,G,hd,hv',rfl⟩;have hdl:=congrArg List.length hd;simp only[len_put,len_long,len_rect,List.length_cons,List.length_nil] at hdl;refine ⟨[],?_⟩)|(refine (wput (k:=1) (xs:=[k.g.ops,k.g.zoom,1]) (by assumption) (by decide) (by decide) q0 (by simp) (by clear hs hp;omega)).use [0,1,3] rfl rfl ⟨⟨_,rfl,rfl⟩,⟨_,rfl,kp⟩,⟨_,rfl,rfl⟩,tU⟩ ?_;rintro _ _ ⟨rfl,v',d,G,hd,hv',rfl⟩;have hdl:=congrArg List.length hd;simp only[len_put,len_long,len_rect,List.length_cons,List.length_nil] at hdl;refine ⟨[],?_⟩)|(refine (wrect (x0:=k.g.x0) (y0:=k.g.y0) (x1:=k.g.x1) (y1:=k.g.y1) (by assumption) q1 (by clear hs hp;omega) rfl).use [0,1] rfl rfl ⟨⟨_,rfl,rfl⟩,⟨_,rfl,kp⟩,tU⟩ ?_;rintro _ _ ⟨rfl,v',d,G,hd,hv',rfl⟩;have hdl:=congrArg List.length hd;simp only[len_put,len_long,len_rect,List.length_cons,List.length_nil] at hdl;refine ⟨[],?_⟩)|(refine (wput (k:=4) (xs:=[k.g.till]) (by assumption) (by decide) (by decide) q2 (by simp) (by clear hs hp;omega)).use [0,1,4] rfl rfl ⟨⟨_,rfl,rfl⟩,⟨_,rfl,kp⟩,⟨_,rfl,rfl⟩,tU⟩ ?_;rintro _ _ ⟨rfl,v',d,G,hd,hv',rfl⟩;have hdl:=congrArg List.length hd;simp only[len_put,len_long,len_rect,List.length_cons,List.length_nil] at hdl;refine ⟨[],?_⟩)|(subst hF;refine WpC.seqG fun F hF=>?_)|subst hF)
 all_goals (try conv=>whnf)
 all_goals refine WrPost.to ⟨rfl,_,_,_,rfl,by assumption,rfl⟩ ?_
 all_goals rw[←hL]
 all_goals clear hL
 all_goals subst_vars
 all_goals simp[wB,tikP,rectP,voidI,hb,List.append_assoc]
theorem wticket_false{k:Tik}{v:Value}{l L:List UInt8}(hv:SlF v l)(h:wOk (tikP k))(hs:k.secret<18446744073709551616)(hp:k.parent<18446744073709551616)(hb:k.g.void=false)(hl:l.length≤800000000)(hL:l++(toBE 8 k.secret++toBE 8 k.parent++wB (tikP k))=L):CP [] 163 [.ptr 0 0,.agg (tikA' k)] (wrH v l) (WrPost L):=by
 have q0:∀x∈[k.g.ops,k.g.zoom,0],NumOk 1 x:=by
  have:=h (1,[k.g.ops,k.g.zoom,voidI k.g.void]) (by simp[tikP])
  rw[hb] at this
  exact this
 have q1:wOk (rectP k.g.x0 k.g.y0 k.g.x1 k.g.y1):=fun p hp=>h p (by rw[List.mem_singleton.1 hp];simp[tikP])
 have q2:∀x∈[k.g.till],NumOk 4 x:=h (4,_) (by simp[tikP])
 unfold tikA'
 rw[hb]
 refine fn_ok ev_ok rfl ?_
 refine FnW.of rfl rfl ?_
 refine WpC.seqG fun F hF=>?_
 repeat' ((conv=>whnf);first|with_reducible apply brP_of<;>intro _|(refine (wlong (k:=8) (n:=k.secret) (by assumption) (by decide) (by decide) hs (pow8 hs) (by clear hs hp;omega)).use [0,1] rfl rfl ⟨⟨_,rfl,rfl⟩,⟨_,rfl,kp⟩,tU⟩ ?_;rintro _ _ ⟨rfl,v',d,G,hd,hv',rfl⟩;have hdl:=congrArg List.length hd;simp only[len_put,len_long,len_rect,List.length_cons,List.length_nil] at hdl;refine ⟨[],?_⟩)|(refine (wlong (k:=8) (n:=k.parent) (by assumption) (by decide) (by decide) hp (pow8 hp) (by clear hs hp;omega)).use [0,1] rfl rfl ⟨⟨_,rfl,rfl⟩,⟨_,rfl,kp⟩,tU⟩ ?_;rintro _ _ ⟨rfl,v',d,G,hd,hv',rfl⟩;have hdl:=congrArg List.length hd;simp only[len_put,len_long,len_rect,List.length_cons,List.length_nil] at hdl;refine ⟨[],?_⟩)|(refine (wput (k:=1) (xs:=[k.g.ops,k.g.zoom,0]) (by assumption) (by decide) (by decide) q0 (by simp) (by clear hs hp;omega)).use [0,1,3] rfl rfl ⟨⟨_,rfl,rfl⟩,⟨_,rfl,kp⟩,⟨_,rfl,rfl⟩,tU⟩ ?_;rintro _ _ ⟨rfl,v',d,G,hd,hv',rfl⟩;have hdl:=congrArg List.length hd;simp only[len_put,len_long,len_rect,List.length_cons,List.length_nil] at hdl;refine ⟨[],?_⟩)|(refine (wrect (x0:=k.g.x0) (y0:=k.g.y0) (x1:=k.g.x1) (y1:=k.g.y1) (by assumption) q1 (by clear hs hp;omega) rfl).use [0,1] rfl rfl ⟨⟨_,rfl,rfl⟩,⟨_,rfl,kp⟩,tU⟩ ?_;rintro _ _ ⟨rfl,v',d,G,hd,hv',rfl⟩;have hdl:=congrArg List.length hd;simp only[len_put,len_long,len_rect,List.length_cons,List.length_nil] at hdl;refine ⟨[],?_⟩)|(refine (wput (k:=4) (xs:=[k.g.till]) (by assumption) (by decide) (by decide) q2 (by simp) (by clear hs hp;omega)).use [0,1,4] rfl rfl ⟨⟨_,rfl,rfl⟩,⟨_,rfl,kp⟩,⟨_,rfl,rfl⟩,tU⟩ ?_;rintro _ _ ⟨rfl,v',d,G,hd,hv',rfl⟩;have hdl:=congrArg List.length hd;simp only[len_put,len_long,len_rect,List.length_cons,List.length_nil] at hdl;refine ⟨[],?_⟩)|(subst hF;refine WpC.seqG fun F hF=>?_)|subst hF)
 all_goals (try conv=>whnf)
 all_goals refine WrPost.to ⟨rfl,_,_,_,rfl,by assumption,rfl⟩ ?_
 all_goals rw[←hL]
 all_goals clear hL
 all_goals subst_vars
 all_goals simp[wB,tikP,rectP,voidI,hb,List.append_assoc]
end Go.Proofs.YtmbdghclhpboaaaGreat
