/- Part of the proof: Rdr6 Snw2. Conditions: as each states. -/
import Derived.Test.YtmbdghclhpboaaaGreatPq35
set_option linter.all false
set_option maxRecDepth 100000
namespace Go.Proofs.YtmbdghclhpboaaaGreat
open Ev
def iq(tk:List dW):aC:=aC.star (tk.map fun x=>aA tC 10 96 (lN x) x.l)
theorem GO{tk:List dW}{x:dW}(w:World)(S1 S2:Nat->Prop)(h1:(iq tk).at_ w S1)(h2:(aA tC 10 96 (lN x) x.l).at_ w S2)(hd:∀b,S1 b->S2 b->False):(iq (tk++[x])).at_ w (fun b=>S1 b\/S2 b):=by
 show bD ((tk++[x]).map fun x=>aA tC 10 96 (lN x) x.l) w _
 rw[List.map_append];exact dK.2 ⟨S1,S2,h1,⟨S2,fun _=>False,h2,fun _ h=>h,fun _ _ h=>h,fun b=>by simp⟩,hd,fun b=>Iff.rfl⟩
theorem GP(w:World):(iq []).at_ w fun _=>False:=fun _ h=>h
theorem EN{R:aC}{s:aH}{tk:List dW}(h:s.Ok R)(hl:s.l.length<=1000000000):CP [] 104 [.ptr 0 0] [c9 s,.res R,.res (iq tk)] (fun v H'=>∃m x s' G,s.mem=((m,x.l),s')/\s'.Ok R/\cS (lN x) x.l/\v=.tuple [.agg (mA m),.lit (lN x)]/\H'=c9 s'::.res R::.res (iq (tk++[x]))::G):=by
 refine aj.post (K:=fun v H'=>∃m x s',s.mem=((m,x.l),s')/\s'.Ok R/\cS (lN x) x.l/\v=.tuple [.agg (mA m),.lit (lN x)]/\H'=[c9 s',.res R,.res (iq tk),.res (aA tC 10 96 (lN x) x.l)]) ?_ ?_
 ·refine (RC h hl).use [0,1] rfl rfl ⟨⟨_,rfl,rfl⟩,ko,tU⟩ ?_;rintro _ _ ⟨m,ts,s',v',G1,G2,G3,G4,G5,G,e1,gp,hv,rfl,rfl⟩;refine ⟨[7],?_⟩;obtain ⟨oa,c,rfl⟩:=iL hv;conv=>whnf
  exact ⟨m,⟨oa,c,ts⟩,s',e1,gp,hv,rfl,rfl⟩
 ·rintro _ _ ⟨m,x,s',e1,gp,hv,rfl,rfl⟩;exact ⟨[c9 s',.res R,.res (iq (tk++[x])),.res aB],eg.same rfl ((bj.merge (i:=2) (j:=3) rfl rfl rfl GO).trans (.of_eq rfl)),m,x,s',_,e1,gp,hv,rfl,rfl⟩
def aH.U9(n:Nat)(s:aH):List UInt8:=if n<=s.l.length then s.l.take n else []
theorem MQ{R:aC}{s:aH}(h:s.Ok R)(n:Nat):CP [] 109 [.ptr 0 0,iA n] [c9 s,.res R] (fun v H'=>∃tx s' G,s.U9 n=tx/\s.take n=s'/\s'.Ok R/\((v=.lit aD/\tx=[])\/∃b off,v=.lit (.slice (some ⟨b,off,none⟩) tx.length tx.length)/\zW R b off tx.length tx)/\H'=c9 s'::.res R::G):=by
 refine (R5 h n).use [0] rfl rfl ⟨⟨_,rfl,rfl⟩,tU⟩ ?_;obtain ⟨tx,F7⟩:∃tx,s.U9 n=tx:=⟨_,rfl⟩;rintro _ _ ⟨rfl,G,rfl⟩;refine ⟨[],?_⟩;have eR:=h.take n;obtain ⟨s',gp⟩:∃s',s.take n=s':=⟨_,rfl⟩;rw[gp] at eR ⊢;by_cases hn:n<=s.l.length
 ·have e1:wz n s=.slice s.A n n:=if_pos hn;have e2:tx=s.l.take n:=by rw[<-F7];exact if_pos hn
  have e3:tx.length=n:=by rw[e2,List.length_take];omega
  rw[e1];cases hA:s.A with
  | none=>
    obtain ⟨h1,h2⟩:=h.nil hA;have e4:n=0:=by rw[h1] at hn;simpa using hn
    subst e4;conv=>whnf
    exact ⟨tx,s',_,F7,rfl,eR,.inl ⟨rfl,List.eq_nil_of_length_eq_zero e3⟩,rfl⟩
  | some a=>
    obtain ⟨b,off,rfl,hb⟩:=h.KX a hA;conv=>whnf
    refine ⟨tx,s',_,F7,rfl,eR,.inr ⟨b,off,by rw[e3],?_⟩,rfl⟩;rw[e3,e2];exact hb.take hn
 ·have e1:wz n s=.slice none 0 0:=if_neg hn;rw[e1];conv=>whnf
  exact ⟨tx,s',_,F7,rfl,eR,.inl ⟨rfl,by rw[<-F7];exact if_neg hn⟩,rfl⟩
def jt:Nat->aH->List (Mem×List cy)->List (Mem×List cy)×aH×Bool
 | 0,s,acc=>(acc,s,false)
 | n+1,s,acc=>if s.mem.2.bad then (acc,s.mem.2,true) else jt n s.mem.2 (acc++[s.mem.1])
structure pq where
 ms:List (Mem×List cy)
 rs:List bW
 ss:List df
 tx:List UInt8
 es:List fS
 past:Nat
def aH.mW(s:aH):pq×aH:=
 let p:=s.num 8
 let n:=p.2.num 2
 let m:=jt n.1 n.2 []
 if m.2.2 then (⟨m.1,[],[],[],[],p.1⟩,m.2.1) else
  let nr:=m.2.1.num 2
  let rs:=bO aH.rD nr.1 nr.2 []
  let ns:=rs.2.num 2
  let ss:=bO aH.rJ ns.1 ns.2 []
  let nt:=ss.2.num 2
  let ne:=(nt.2.take nt.1).num 4
  let es:=bO aH.se ne.1 ne.2 []
  (⟨m.1,rs.1,ss.1,nt.2.U9 nt.1,es.1,p.1⟩,es.2)
def mL(m:Mem):List Value:=[iK m.user,iK m.role,iK m.jo,iK m.fL,iK m.k,.int .u64 m.cu]
theorem Mm(m:Mem):(mL m).length=6:=rfl
theorem Hk:iO ev 22 51 6:=⟨⟨_,rfl,rfl⟩,_,_,rfl,rfl,rfl,rfl,by decide⟩
theorem Hm:iO ev 23 52 1:=⟨⟨_,rfl,rfl⟩,_,_,rfl,rfl,rfl,rfl,by decide⟩
def VR(acc:List (Mem×List cy))(tk:List dW):Nat->List ai
 | 0=>[]
 | _+1=>[.row ((acc.map (·.1)).flatMap mL) 51,.row (tk.map lN) 52]
def aaC(i:Nat)(vr vs:Value)(tx:ByteArray)(ve:Value)(p:Int):List AV:=[sx 5 6 i,sx 6 1 i,.lit vr,.lit vs,.lit (.string tx),.lit ve,iA p]
structure StS where
 i:Nat
 acc:List (Mem×List cy)
 tk:List dW
 s:aH
theorem QV{xs ys:List Value}{e:TypeId}{g:Nat->Nat}(h:xs=ys):pL (.row xs e) ((ai.row ys e).cI g):=by subst h;rfl
theorem zW.cells{R:aC}{b off c:Nat}{l:List UInt8}(h:zW R b off c l)(w:World)(S:Nat->Prop)(hw:R.at_ w S)(j:Nat)(hj:j<l.length):w.cell? ((⟨b,off,none⟩:Addr).add j)=some (.int .u8 (l[j].toNat:Int)):=by
 rw[Addr.add_mid];exact h.lay w S hw j _ (by rw[Be,List.getElem?_eq_getElem hj];rfl)
theorem AJ{α:Type}{one:aH->α×aH}(h1:∀s,(one s).2.l.length<=s.l.length):∀(n:Nat) (s:aH) (acc:List α),(bO one n s acc).2.l.length<=s.l.length
 | 0,s,acc=>Nat.le_refl _
 | n+1,s,acc=>by
   unfold bO;split
   ·exact h1 s
   ·exact Nat.le_trans (AJ h1 n _ _) (h1 s)
theorem cj(k:Nat)(s:aH):(s.num k).2.l.length<=s.l.length:=gD (x:=(s.num k).1) (s':=(s.num k).2) rfl
theorem xi(k:Nat)(s:aH):(s.gB k).2.l.length<=s.l.length:=Ml (x:=(s.gB k).1) (s':=(s.gB k).2) rfl
theorem M0(n:Nat)(s:aH):(s.take n).l.length<=s.l.length:=by
 unfold aH.take;split
 ·simp only[List.length_drop];omega
 ·simp
theorem JV{n:Nat}{s s':aH}(h:s.take n=s'):s'.l.length<=s.l.length:=h ▸ M0 n s
theorem Su(s:aH):s.qG.2.l.length<=s.l.length:=by
 unfold aH.qG;simp only[];refine Nat.le_trans (cj _ _) ?_;refine Nat.le_trans (cj _ _) ?_;refine Nat.le_trans (cj _ _) ?_;refine Nat.le_trans (cj _ _) ?_;refine Nat.le_trans (cj _ _) ?_;simp only[];refine Nat.le_trans (cj _ _) ?_;refine Nat.le_trans (cj _ _) ?_;refine Nat.le_trans (cj _ _) ?_;refine Nat.le_trans (xi _ _) ?_;exact xi _ _
theorem CA(s:aH):s.rD.2.l.length<=s.l.length:=by
 unfold aH.rD;simp only[];refine Nat.le_trans (cj _ _) ?_;refine Nat.le_trans (cj _ _) ?_;refine Nat.le_trans (cj _ _) ?_;exact cj _ _
theorem Wq(s:aH):s.se.2.l.length<=s.l.length:=by
 unfold aH.se;simp only[];refine Nat.le_trans (cj _ _) ?_;refine Nat.le_trans (cj _ _) ?_;refine Nat.le_trans (cj _ _) ?_;exact cj _ _
theorem Lv(s:aH):s.rJ.2.l.length<=s.l.length:=by
 unfold aH.rJ;simp only[];refine Nat.le_trans (cj _ _) ?_;refine Nat.le_trans (cj _ _) ?_;refine Nat.le_trans (cj _ _) ?_;refine Nat.le_trans (cj _ _) ?_;refine Nat.le_trans (cj _ _) ?_;exact cj _ _
theorem JM{α:Type}{one:aH->α×aH}(h1:∀s,(one s).2.bad=false->s.bad=false):∀(n:Nat) (s:aH) (acc:List α),(bO one n s acc).2.bad=false->s.bad=false
 | 0,s,acc,h=>h
 | n+1,s,acc,h=>by
   unfold bO at h;split at h
   ·rename_i hb;simp only[] at h;rw[hb] at h;cases h
   ·exact h1 s (JM h1 n _ _ h)
theorem QJ(s:aH):s.mem.2.l.length+2<=s.l.length\/s.mem.2.bad=true:=by
 cases hb:s.mem.2.bad with
 | true=>exact .inr rfl
 | false=>
   left;have hl:s.mem.2.l.length<=(s.num 2).2.l.length:=by
    unfold aH.mem;simp only[];refine Nat.le_trans (AJ Su _ _ _) ?_;refine Nat.le_trans (cj _ _) ?_;refine Nat.le_trans (xi _ _) ?_;refine Nat.le_trans (cj _ _) ?_;refine Nat.le_trans (cj _ _) ?_;refine Nat.le_trans (cj _ _) ?_;exact cj _ _
   unfold aH.mem at hb;simp only[] at hb;obtain ⟨b6,_⟩:=dG (JM (one:=aH.qG) (fun s h=>(M1 (s:=s) h).1) _ _ _ hb);obtain ⟨b5,_⟩:=Cc b6;obtain ⟨b4,_⟩:=dG b5;obtain ⟨b3,_⟩:=dG b4;obtain ⟨b2,_⟩:=dG b3;obtain ⟨b1,_⟩:=dG b2;have h0:=(dG b1).2;omega
theorem qE{α:Type}{one:aH->α×aH}(h1:∀s,(one s).2.l.length<=s.l.length){n:Nat}{s s':aH}{xs:List α}(h:bO one n s []=(xs,s')):s'.l.length<=s.l.length:=by
 have:=AJ h1 n s [];rw[h] at this;exact this
theorem JY{tk:List dW}{x:dW}(h:∀y∈tk,cS (lN y) y.l)(hx:cS (lN x) x.l):∀y∈tk++[x],cS (lN y) y.l:=fun y hy=>by
 rcases List.mem_append.1 hy with hy|hy
 ·exact h y hy
 ·rw[List.mem_singleton.1 hy];exact hx
def V5(s:aH)(acc:List (Mem×List cy))(tk gH:List dW)(s':aH)(vr vs:Value)(tx:ByteArray)(ve:Value)(p:Int)(rest:List ai):Prop:=
 (∃x,s'.bad=true/\s.mW=(x,s')/\vr=aD/\vs=aD/\ve=aD) \/
 ∃rs ss t es p' G,s.mW=(⟨acc,rs,ss,t,es,p'⟩,s')/\acc.map (·.2)=tk.map dW.l/\(∀x∈tk,cS (lN x) x.l)/\gH=tk/\cS vr rs/\cS vs ss/\cS ve es/\tx=⟨t.toArray⟩/\p=(p':Nat)/\rest=.res (aA kX 4 72 vr rs)::.res (aA vV 6 78 vs ss)::.res (aA qg 4 81 ve es)::G
def YH(R:aC)(s:aH)(v:AV)(H':List ai):Prop:=∃i acc tk gH s' vr vs tx ve p A B rest,acc.length=i/\tk.length=i/\s'.Ok R/\V5 s acc tk gH s' vr vs tx ve p rest/\v=.agg (aaC i vr vs tx ve p)/\H'=c9 s'::.res R::.res (iq gH)::A::B::VR acc tk i++rest
theorem RY{R:aC}{s:aH}(h:s.Ok R)(hl:s.l.length<=1000000000):CP [] 39 [.ptr 0 0] [c9 s,.res R,.res (iq [])] (YH R s):=by
 refine ag aa rfl ?_;refine eX.of rfl rfl ?_;refine aI.az fun F hF=>?_;repeat' ((conv=>whnf);first|with_reducible apply af<;>intro _|refine aM.drawn aa rfl rfl ?_|with_reducible refine And.intro (aN.mk ⟨_,rfl,rfl⟩) ?_|(refine (ov (k:=8) (j0:=6) (cs:=[.lit aD,.lit aD,.lit aD,.lit aD,.lit (.string ⟨#[]⟩),.lit aD,iA 0]) (T:=28) (P:=189) h (by decide) (by decide) (by simp) (fun _=>rfl)).use [0,1,4,5] rfl rfl ⟨⟨_,rfl,rfl⟩,ko,⟨_,rfl,rfl⟩,⟨_,rfl,rfl⟩,tU⟩ ?_;rintro _ _ ⟨x0,s1,G1,e0,h1,rfl,rfl⟩;refine ⟨[],?_⟩)|(refine (mS (k:=2) h1 (by decide) (by decide)).use [0,1] rfl rfl ⟨⟨_,rfl,rfl⟩,ko,tU⟩ ?_;rintro _ _ ⟨x1,s2,G2,e1,h2,rfl,rfl⟩;refine ⟨[],?_⟩)|(show F _ _ _;subst hF;refine aI.az fun F hF=>?_)|(show F _ _ _;subst hF))
 conv=>whnf
 refine aV aa rfl (fun q:StS=>[(0,.ptr 0 0),(2,.ptr 3 0),(3,.ptr 4 0),(11,iA (x1:Nat)),(12,iA (q.i:Nat))]) (fun q=>[c9 q.s,.res R,.res (iq q.tk),.cells [.lit aD,.lit aD,.lit aD,.lit aD,.lit (.string ⟨#[]⟩),.lit aD,iA 0] 28,.cells [sx 5 6 q.i,sx 6 1 q.i,.lit aD,.lit aD,.lit (.string ⟨#[]⟩),.lit aD,iA (x0:Nat)] 28]++VR q.acc q.tk q.i)
  (fun q=>q.i<=x1/\q.acc.length=q.i/\q.s.Ok R/\q.acc.map (·.2)=q.tk.map dW.l/\jt x1 s2 []=jt (x1 - q.i) q.s q.acc/\q.i+q.s.l.length<=1000000000/\∀x∈q.tk,cS (lN x) x.l) (fun q=>x1 - q.i) ⟨0,[],[],s2⟩ ⟨Nat.zero_le _,rfl,h2,rfl,rfl,by have:=gD e0;have:=gD e1;simp only[];omega,fun x hx=>by cases hx⟩ [0,1,2,3,4] ?_ ?_
 ·exact ⟨rfl,⟨rr,rr,rr,rr,rr,tU⟩,⟨⟨_,rfl,rfl⟩,ko,ko,⟨_,rfl,rfl⟩,⟨_,rfl,rfl⟩,tU⟩⟩
 ·rintro ⟨i,acc,tk,s3⟩ ⟨g9,zy,h3,heq,hm,hlen,lL⟩;simp only[] at g9 zy h3 heq hm hlen lL;have DD:=tH e1;have pV:tk.length=i:=by
   have:=congrArg List.length heq;simp only[List.length_map] at this;omega
  by_cases hi:i<x1
  ·have en:x1 - i=(x1 - (i+1))+1:=by omega
   rw[en,jt] at hm;have kg:∀(b:Bool) (m:Mem) (x:dW) (s':aH),s3.mem=((m,x.l),s')->s'.bad=b->(b=true->s.mW=(⟨acc,[],[],[],[],x0⟩,s'))/\(b=false->jt x1 s2 []=jt (x1 - (i+1)) s' (acc++[(m,x.l)])/\(i+1)+s'.l.length<=1000000000/\(acc++[(m,x.l)]).map (·.2)=(tk++[x]).map dW.l):=fun b m x s' Wp e2=>by
    rw[Wp] at hm;simp only[] at hm;refine ⟨fun hb=>?_,fun hb=>?_⟩
    ·rw[e2,hb] at hm;simp only[aH.mW,e0,e1,hm];rfl
    ·rw[e2,hb] at hm;have h5:=(QJ s3).resolve_right (by rw[Wp,e2,hb];decide);rw[Wp] at h5;simp only[] at h5;exact ⟨hm,by omega,by rw[List.map_append,List.map_append,heq];rfl⟩
   rcases i with _|i
   ·obtain rfl:=List.eq_nil_of_length_eq_zero zy;obtain rfl:=List.eq_nil_of_length_eq_zero pV;conv=>whnf
    refine af (fun _=>?_) (bT hi);repeat' ((conv=>whnf);first|with_reducible apply af<;>intro _|refine aM.drawn aa rfl rfl ?_|with_reducible refine And.intro (aN.mk ⟨_,rfl,rfl⟩) ?_|(refine (EN (tk:=[]) h3 (by omega)).use [0,1,2] rfl rfl ⟨⟨_,rfl,rfl⟩,ko,ko,tU⟩ ?_;rintro _ _ ⟨m,x,s4,G4,e4,h4,hx,rfl,rfl⟩;refine ⟨[],?_⟩)|refine aM.drawn aa rfl rfl ?_|refine dx.nil Hk rfl rfl rfl rfl rfl ?_|refine dx.nil Hm rfl rfl rfl rfl rfl ?_)
    all_goals (try conv=>whnf)
    ·rename_i hb;exact ⟨0,[],[],_,s4,_,_,_,_,_,_,_,_,rfl,rfl,h4,.inl ⟨_,hb,(kg _ m x s4 e4 hb).1 rfl,rfl,rfl,rfl⟩,rfl,rfl⟩
    ·rename_i hb;obtain ⟨k1,k2,k3⟩:=(kg _ m x s4 e4 hb).2 rfl;exact ⟨⟨1,[]++[(m,x.l)],[]++[x],s4⟩,[0,1,2,3,4,8,9],⟨⟨hi,rfl,h4,k3,k1,k2,JY lL hx⟩,by show x1 - (0+1)<x1 - 0;omega⟩,rfl,⟨rr,rr,rr,rr,⟨rfl,ax rfl (ak (by dsimp only;omega) (by dsimp only;omega))⟩,tU⟩,⟨⟨_,rfl,rfl⟩,ko,ko,⟨_,rfl,rfl⟩,⟨_,rfl,rfl⟩,⟨_,rfl,rfl⟩,⟨_,rfl,rfl⟩,tU⟩⟩
   ·conv=>whnf
    refine af (fun _=>?_) (bT hi);repeat' ((conv=>whnf);first|with_reducible apply af<;>intro _|refine aM.drawn aa rfl rfl ?_|with_reducible refine And.intro (aN.mk ⟨_,rfl,rfl⟩) ?_|(refine (EN (tk:=tk) h3 (by omega)).use [0,1,2] rfl rfl ⟨⟨_,rfl,rfl⟩,ko,ko,tU⟩ ?_;rintro _ _ ⟨m,x,s4,G4,e4,h4,hx,rfl,rfl⟩;refine ⟨[],?_⟩)|refine aM.drawn aa rfl rfl ?_|refine dx.own Hk rfl rfl rfl rfl rfl rfl (by dsimp only;rw[eC Mm,List.length_map];omega) (by omega) ?_|refine dx.own Hm rfl rfl rfl rfl rfl rfl (by dsimp only;rw[List.length_map];omega) (by omega) ?_)
    all_goals (try conv=>whnf)
    ·rename_i hb;exact ⟨i+1,acc,tk,_,s4,_,_,_,_,_,_,_,_,zy,pV,h4,.inl ⟨_,hb,(kg _ m x s4 e4 hb).1 rfl,rfl,rfl,rfl⟩,rfl,rfl⟩
    ·rename_i hb;obtain ⟨k1,k2,k3⟩:=(kg _ m x s4 e4 hb).2 rfl;exact ⟨⟨i+1+1,acc++[(m,x.l)],tk++[x],s4⟩,[0,1,2,3,4,10,11],⟨⟨hi,by simp[zy],h4,k3,k1,k2,JY lL hx⟩,by show x1 - (i+1+1)<x1 - (i+1);omega⟩,rfl,⟨rr,rr,rr,rr,⟨rfl,ax rfl (ak (by dsimp only;omega) (by dsimp only;omega))⟩,tU⟩,⟨⟨_,rfl,rfl⟩,ko,ko,⟨_,rfl,rfl⟩,⟨_,rfl,rfl⟩,⟨_,rfl,QV (by rw[List.map_append,List.flatMap_append];rfl)⟩,⟨_,rfl,QV (by rw[List.map_append];rfl)⟩,tU⟩⟩
  ·rw[show x1 - i=0 by omega,jt] at hm;have Mh:∀{y0 y1 y2 y3:Nat} {s4 s5 s6 s7 s8 s9 Ai JC:aH} {rs:List bW} {ss:List df} {es:List fS} {tx:List UInt8} (f0:s3.num 2=(y0,s4)) (f1:bO aH.rD y0 s4 []=(rs,s5)) (f2:s5.num 2=(y1,s6)) (f3:bO aH.rJ y1 s6 []=(ss,s7)) (f4:s7.num 2=(y2,s8)) (f5:s8.U9 y2=tx) (f6:s8.take y2=s9) (f7:s9.num 4=(y3,Ai)) (f8:bO aH.se y3 Ai []=(es,JC)),s.mW=(⟨acc,rs,ss,tx,es,x0⟩,JC):=fun f0 f1 f2 f3 f4 f5 f6 f7 f8=>by
    simp only[aH.mW,e0,e1,hm,f0,f1,f2,f3,f4,f5,f6,f7,f8];rfl
   rcases i with _|i
   ·conv=>whnf
    refine af (cF hi) (fun _=>?_);repeat' ((conv=>whnf);first|with_reducible apply af<;>intro _|refine aM.drawn aa rfl rfl ?_|with_reducible refine And.intro (aN.mk ⟨_,rfl,rfl⟩) ?_|(refine (mS (k:=2) h3 (by decide) (by decide)).use [0,1] rfl rfl ⟨⟨_,rfl,rfl⟩,ko,tU⟩ ?_;rintro _ _ ⟨y0,s4,G4,f0,h4,rfl,rfl⟩;refine ⟨[],?_⟩)|(refine (MN (n:=y0) h4 (by have:=gD f0;omega) (tH f0)).use [0,1] rfl rfl ⟨⟨_,rfl,rfl⟩,ko,tU⟩ ?_;rintro _ _ ⟨rs,s5,vr,G5,f1,h5,KR,rfl,rfl⟩;refine ⟨[2],?_⟩;obtain ⟨ar,cr,rfl⟩:=iL KR)|(refine (mS (k:=2) h5 (by decide) (by decide)).use [0,1] rfl rfl ⟨⟨_,rfl,rfl⟩,ko,tU⟩ ?_;rintro _ _ ⟨y1,s6,G6,f2,h6,rfl,rfl⟩;refine ⟨[],?_⟩)|(refine (MO (n:=y1) h6 (by have:=gD f0;have:=qE CA f1;have:=gD f2;omega) (tH f2)).use [0,1] rfl rfl ⟨⟨_,rfl,rfl⟩,ko,tU⟩ ?_;rintro _ _ ⟨ss,s7,vs,G7,f3,h7,B6,rfl,rfl⟩;refine ⟨[2],?_⟩;obtain ⟨asx,cs,rfl⟩:=iL B6)|(refine (mS (k:=2) h7 (by decide) (by decide)).use [0,1] rfl rfl ⟨⟨_,rfl,rfl⟩,ko,tU⟩ ?_;rintro _ _ ⟨y2,s8,G8,f4,h8,rfl,rfl⟩;refine ⟨[],?_⟩)|(refine (MQ h8 y2).use [0,1] rfl rfl ⟨⟨_,rfl,rfl⟩,ko,tU⟩ ?_;rintro _ _ ⟨tx,s9,G9,f5,f6,h9,(⟨rfl,F7⟩|⟨b,off,rfl,sY⟩),rfl⟩<;>refine ⟨[],?_⟩)|refine al.DX aa rfl rfl rfl rfl rfl rfl rfl rfl (i:=1) rfl sY.cells ?_|(refine (mS (k:=4) h9 (by decide) (by decide)).use [0,1] rfl rfl ⟨⟨_,rfl,rfl⟩,ko,tU⟩ ?_;rintro _ _ ⟨y3,Ai,VV,f7,od,rfl,rfl⟩;refine ⟨[],?_⟩)|(refine (MM (n:=y3) od (by have:=gD f0;have:=qE CA f1;have:=gD f2;have:=qE Lv f3;have:=gD f4;have:=JV f6;have:=gD f7;omega) (tH f7)).use [0,1] rfl rfl ⟨⟨_,rfl,rfl⟩,ko,tU⟩ ?_;rintro _ _ ⟨es,JC,ve,G11,f8,PJ,KQ,rfl,rfl⟩;refine ⟨[2],?_⟩;obtain ⟨ae,ce,rfl⟩:=iL KQ)|(show F _ _ _;subst hF;refine aI.az fun F hF=>?_)|(show F _ _ _;subst hF))
    all_goals (try conv=>whnf)
    ·subst F7;exact ⟨0,acc,tk,_,JC,_,_,⟨([]:List UInt8).toArray⟩,_,_,_,_,_,zy,pV,PJ,.inr ⟨rs,ss,[],es,x0,[],Mh f0 f1 f2 f3 f4 f5 f6 f7 f8,heq,lL,rfl,KR,B6,KQ,rfl,rfl,rfl⟩,rfl,rfl⟩
    ·exact ⟨0,acc,tk,_,JC,_,_,⟨(tx:List UInt8).toArray⟩,_,_,_,_,_,zy,pV,PJ,.inr ⟨rs,ss,tx,es,x0,[],Mh f0 f1 f2 f3 f4 f5 f6 f7 f8,heq,lL,rfl,KR,B6,KQ,rfl,rfl,rfl⟩,rfl,rfl⟩
   ·conv=>whnf
    refine af (cF hi) (fun _=>?_);repeat' ((conv=>whnf);first|with_reducible apply af<;>intro _|refine aM.drawn aa rfl rfl ?_|with_reducible refine And.intro (aN.mk ⟨_,rfl,rfl⟩) ?_|(refine (mS (k:=2) h3 (by decide) (by decide)).use [0,1] rfl rfl ⟨⟨_,rfl,rfl⟩,ko,tU⟩ ?_;rintro _ _ ⟨y0,s4,G4,f0,h4,rfl,rfl⟩;refine ⟨[],?_⟩)|(refine (MN (n:=y0) h4 (by have:=gD f0;omega) (tH f0)).use [0,1] rfl rfl ⟨⟨_,rfl,rfl⟩,ko,tU⟩ ?_;rintro _ _ ⟨rs,s5,vr,G5,f1,h5,KR,rfl,rfl⟩;refine ⟨[2],?_⟩;obtain ⟨ar,cr,rfl⟩:=iL KR)|(refine (mS (k:=2) h5 (by decide) (by decide)).use [0,1] rfl rfl ⟨⟨_,rfl,rfl⟩,ko,tU⟩ ?_;rintro _ _ ⟨y1,s6,G6,f2,h6,rfl,rfl⟩;refine ⟨[],?_⟩)|(refine (MO (n:=y1) h6 (by have:=gD f0;have:=qE CA f1;have:=gD f2;omega) (tH f2)).use [0,1] rfl rfl ⟨⟨_,rfl,rfl⟩,ko,tU⟩ ?_;rintro _ _ ⟨ss,s7,vs,G7,f3,h7,B6,rfl,rfl⟩;refine ⟨[2],?_⟩;obtain ⟨asx,cs,rfl⟩:=iL B6)|(refine (mS (k:=2) h7 (by decide) (by decide)).use [0,1] rfl rfl ⟨⟨_,rfl,rfl⟩,ko,tU⟩ ?_;rintro _ _ ⟨y2,s8,G8,f4,h8,rfl,rfl⟩;refine ⟨[],?_⟩)|(refine (MQ h8 y2).use [0,1] rfl rfl ⟨⟨_,rfl,rfl⟩,ko,tU⟩ ?_;rintro _ _ ⟨tx,s9,G9,f5,f6,h9,(⟨rfl,F7⟩|⟨b,off,rfl,sY⟩),rfl⟩<;>refine ⟨[],?_⟩)|refine al.DX aa rfl rfl rfl rfl rfl rfl rfl rfl (i:=1) rfl sY.cells ?_|(refine (mS (k:=4) h9 (by decide) (by decide)).use [0,1] rfl rfl ⟨⟨_,rfl,rfl⟩,ko,tU⟩ ?_;rintro _ _ ⟨y3,Ai,VV,f7,od,rfl,rfl⟩;refine ⟨[],?_⟩)|(refine (MM (n:=y3) od (by have:=gD f0;have:=qE CA f1;have:=gD f2;have:=qE Lv f3;have:=gD f4;have:=JV f6;have:=gD f7;omega) (tH f7)).use [0,1] rfl rfl ⟨⟨_,rfl,rfl⟩,ko,tU⟩ ?_;rintro _ _ ⟨es,JC,ve,G11,f8,PJ,KQ,rfl,rfl⟩;refine ⟨[2],?_⟩;obtain ⟨ae,ce,rfl⟩:=iL KQ)|(show F _ _ _;subst hF;refine aI.az fun F hF=>?_)|(show F _ _ _;subst hF))
    all_goals (try conv=>whnf)
    ·subst F7;exact ⟨i+1,acc,tk,_,JC,_,_,⟨([]:List UInt8).toArray⟩,_,_,_,_,_,zy,pV,PJ,.inr ⟨rs,ss,[],es,x0,[],Mh f0 f1 f2 f3 f4 f5 f6 f7 f8,heq,lL,rfl,KR,B6,KQ,rfl,rfl,rfl⟩,rfl,rfl⟩
    ·exact ⟨i+1,acc,tk,_,JC,_,_,⟨(tx:List UInt8).toArray⟩,_,_,_,_,_,zy,pV,PJ,.inr ⟨rs,ss,tx,es,x0,[],Mh f0 f1 f2 f3 f4 f5 f6 f7 f8,heq,lL,rfl,KR,B6,KQ,rfl,rfl,rfl⟩,rfl,rfl⟩
def wB(ps:List (Nat×List Int)):List UInt8:=ps.flatMap fun p=>p.2.flatMap (bs p.1)
def pb(ps:List (Nat×List Int)):Prop:=∀p∈ps,∀x∈p.2,bw p.1 x
theorem cN{l:List UInt8}{k:Nat}{xs:List Int}:(l++xs.flatMap (bs k)).length=l.length+xs.length * k:=by
 rw[List.length_append,fU (fun x:Int=>bR k x.toNat)]
theorem bM{l:List UInt8}{k n:Nat}:(l++cG k n).length=l.length+k:=by rw[List.length_append,bR]
theorem zL{n:Nat}(h:n<18446744073709551616):n<256 ^ 8:=Nat.lt_of_lt_of_eq h (by decide)
theorem gS.to{l l':List UInt8}{v:AV}{H':List ai}(h:gS l v H')(e:l=l'):gS l' v H':=e ▸ h
def gG(x0 y0 x1 y1:Int):List (Nat×List Int):=[(2,[x0,y0,x1,y1])]
theorem dZ{l:List UInt8}{x0 y0 x1 y1:Int}:(l++wB (gG x0 y0 x1 y1)).length=l.length+8:=by
 have e:wB (gG x0 y0 x1 y1)=[x0,y0,x1,y1].flatMap (bs 2):=by simp[wB,gG]
 rw[e,cN];rfl
theorem LN{x0 y0 x1 y1:Int}{v:Value}{l L:List UInt8}(hv:cS v l)(h:pb (gG x0 y0 x1 y1))(hl:l.length<=850000000)(hL:l++wB (gG x0 y0 x1 y1)=L):CP [] 164 [.ptr 0 0,.agg [iA x0,iA y0,iA x1,iA y1]] (kl v l) (gS L):=by
 have q0:∀x∈[x0,y0,x1,y1],bw 2 x:=h (2,_) (by simp[gG]);refine ag aa rfl ?_;refine eX.of rfl rfl ?_;refine aI.az fun F hF=>?_;repeat' ((conv=>whnf);first|with_reducible apply af<;>intro _|(refine (kx (k:=2) (xs:=[x0,y0,x1,y1]) (by assumption) (by decide) (by decide) q0 (by simp) (by omega)).use [0,1,3] rfl rfl ⟨⟨_,rfl,rfl⟩,ko,⟨_,rfl,rfl⟩,tU⟩ ?_;rintro _ _ ⟨rfl,v',d,G,hd,eJ,rfl⟩;have cY:=congrArg List.length hd;simp only[cN,bM,List.length_cons,List.length_nil] at cY;refine ⟨[],?_⟩)|(subst hF;refine aI.az fun F hF=>?_)|subst hF)
 all_goals (try conv=>whnf)
 all_goals refine gS.to ⟨rfl,_,_,_,rfl,by assumption,rfl⟩ ?_
 all_goals rw[<-hL]
 all_goals clear hL
 all_goals subst_vars
 all_goals simp[wB,gG,gG,List.append_assoc]
def eu(r:bW):List (Nat×List Int):=[(2,[r.id,r.x,r.y]),(1,[r.label])]
theorem SB{r:bW}{v:Value}{l L:List UInt8}(hv:cS v l)(h:pb (eu r))(hl:l.length<=800000000)(hL:l++wB (eu r)=L):CP [] 83 [.ptr 0 0,.agg (lE r)] (kl v l) (gS L):=by
 have q0:∀x∈[r.id,r.x,r.y],bw 2 x:=h (2,_) (by simp[eu]);have q1:∀x∈[r.label],bw 1 x:=h (1,_) (by simp[eu]);refine ag aa rfl ?_;refine eX.of rfl rfl ?_;refine aI.az fun F hF=>?_;repeat' ((conv=>whnf);first|with_reducible apply af<;>intro _|(refine (kx (k:=2) (xs:=[r.id,r.x,r.y]) (by assumption) (by decide) (by decide) q0 (by simp) (by omega)).use [0,1,3] rfl rfl ⟨⟨_,rfl,rfl⟩,ko,⟨_,rfl,rfl⟩,tU⟩ ?_;rintro _ _ ⟨rfl,v',d,G,hd,eJ,rfl⟩;have cY:=congrArg List.length hd;simp only[cN,bM,dZ,List.length_cons,List.length_nil] at cY;refine ⟨[],?_⟩)|(refine (kx (k:=1) (xs:=[r.label]) (by assumption) (by decide) (by decide) q1 (by simp) (by omega)).use [0,1,4] rfl rfl ⟨⟨_,rfl,rfl⟩,ko,⟨_,rfl,rfl⟩,tU⟩ ?_;rintro _ _ ⟨rfl,v',d,G,hd,eJ,rfl⟩;have cY:=congrArg List.length hd;simp only[cN,bM,dZ,List.length_cons,List.length_nil] at cY;refine ⟨[],?_⟩)|(subst hF;refine aI.az fun F hF=>?_)|subst hF)
 all_goals (try conv=>whnf)
 all_goals refine gS.to ⟨rfl,_,_,_,rfl,by assumption,rfl⟩ ?_
 all_goals rw[<-hL]
 all_goals clear hL
 all_goals subst_vars
 all_goals simp[wB,eu,gG,List.append_assoc]
def ez(s:df):List (Nat×List Int):=[(2,[s.id]),(2,[s.x0,s.y0,s.x1,s.y1]),(1,[s.label])]
theorem Vj{s:df}{v:Value}{l L:List UInt8}(hv:cS v l)(h:pb (ez s))(hl:l.length<=800000000)(hL:l++wB (ez s)=L):CP [] 85 [.ptr 0 0,.agg (pG s)] (kl v l) (gS L):=by
 have q0:∀x∈[s.id],bw 2 x:=h (2,_) (by simp[ez]);have q1:pb (gG s.x0 s.y0 s.x1 s.y1):=fun p hp=>h p (by rw[List.mem_singleton.1 hp];simp[ez]);have q2:∀x∈[s.label],bw 1 x:=h (1,_) (by simp[ez]);refine ag aa rfl ?_;refine eX.of rfl rfl ?_;refine aI.az fun F hF=>?_;repeat' ((conv=>whnf);first|with_reducible apply af<;>intro _|(refine (kx (k:=2) (xs:=[s.id]) (by assumption) (by decide) (by decide) q0 (by simp) (by omega)).use [0,1,3] rfl rfl ⟨⟨_,rfl,rfl⟩,ko,⟨_,rfl,rfl⟩,tU⟩ ?_;rintro _ _ ⟨rfl,v',d,G,hd,eJ,rfl⟩;have cY:=congrArg List.length hd;simp only[cN,bM,dZ,List.length_cons,List.length_nil] at cY;refine ⟨[],?_⟩)|(refine (LN (x0:=s.x0) (y0:=s.y0) (x1:=s.x1) (y1:=s.y1) (by assumption) q1 (by omega) rfl).use [0,1] rfl rfl ⟨⟨_,rfl,rfl⟩,ko,tU⟩ ?_;rintro _ _ ⟨rfl,v',d,G,hd,eJ,rfl⟩;have cY:=congrArg List.length hd;simp only[cN,bM,dZ,List.length_cons,List.length_nil] at cY;refine ⟨[],?_⟩)|(refine (kx (k:=1) (xs:=[s.label]) (by assumption) (by decide) (by decide) q2 (by simp) (by omega)).use [0,1,4] rfl rfl ⟨⟨_,rfl,rfl⟩,ko,⟨_,rfl,rfl⟩,tU⟩ ?_;rintro _ _ ⟨rfl,v',d,G,hd,eJ,rfl⟩;have cY:=congrArg List.length hd;simp only[cN,bM,dZ,List.length_cons,List.length_nil] at cY;refine ⟨[],?_⟩)|(subst hF;refine aI.az fun F hF=>?_)|subst hF)
 all_goals (try conv=>whnf)
 all_goals refine gS.to ⟨rfl,_,_,_,rfl,by assumption,rfl⟩ ?_
 all_goals rw[<-hL]
 all_goals clear hL
 all_goals subst_vars
 all_goals simp[wB,ez,gG,List.append_assoc]
def eh(e:fS):List (Nat×List Int):=[(2,[e.user]),(1,[e.op,e.status]),(4,[e.tick])]
theorem Vh{e:fS}{v:Value}{l L:List UInt8}(hv:cS v l)(h:pb (eh e))(hl:l.length<=800000000)(hL:l++wB (eh e)=L):CP [] 87 [.ptr 0 0,.agg (Bt e)] (kl v l) (gS L):=by
 have q0:∀x∈[e.user],bw 2 x:=h (2,_) (by simp[eh]);have q1:∀x∈[e.op,e.status],bw 1 x:=h (1,_) (by simp[eh]);have q2:∀x∈[e.tick],bw 4 x:=h (4,_) (by simp[eh]);refine ag aa rfl ?_;refine eX.of rfl rfl ?_;refine aI.az fun F hF=>?_;repeat' ((conv=>whnf);first|with_reducible apply af<;>intro _|(refine (kx (k:=2) (xs:=[e.user]) (by assumption) (by decide) (by decide) q0 (by simp) (by omega)).use [0,1,3] rfl rfl ⟨⟨_,rfl,rfl⟩,ko,⟨_,rfl,rfl⟩,tU⟩ ?_;rintro _ _ ⟨rfl,v',d,G,hd,eJ,rfl⟩;have cY:=congrArg List.length hd;simp only[cN,bM,dZ,List.length_cons,List.length_nil] at cY;refine ⟨[],?_⟩)|(refine (kx (k:=1) (xs:=[e.op,e.status]) (by assumption) (by decide) (by decide) q1 (by simp) (by omega)).use [0,1,4] rfl rfl ⟨⟨_,rfl,rfl⟩,ko,⟨_,rfl,rfl⟩,tU⟩ ?_;rintro _ _ ⟨rfl,v',d,G,hd,eJ,rfl⟩;have cY:=congrArg List.length hd;simp only[cN,bM,dZ,List.length_cons,List.length_nil] at cY;refine ⟨[],?_⟩)|(refine (kx (k:=4) (xs:=[e.tick]) (by assumption) (by decide) (by decide) q2 (by simp) (by omega)).use [0,1,5] rfl rfl ⟨⟨_,rfl,rfl⟩,ko,⟨_,rfl,rfl⟩,tU⟩ ?_;rintro _ _ ⟨rfl,v',d,G,hd,eJ,rfl⟩;have cY:=congrArg List.length hd;simp only[cN,bM,dZ,List.length_cons,List.length_nil] at cY;refine ⟨[],?_⟩)|(subst hF;refine aI.az fun F hF=>?_)|subst hF)
 all_goals (try conv=>whnf)
 all_goals refine gS.to ⟨rfl,_,_,_,rfl,by assumption,rfl⟩ ?_
 all_goals rw[<-hL]
 all_goals clear hL
 all_goals subst_vars
 all_goals simp[wB,eh,gG,List.append_assoc]
def p7(b:Bool):Int:=if b then 1 else 0
def kq(k:cy):List (Nat×List Int):=[(1,[k.g.ops,k.g.bV,p7 k.g.void]),(2,[k.g.x0,k.g.y0,k.g.x1,k.g.y1]),(4,[k.g.mD])]
def rO(k:cy):List AV:=[uA k.bH,uA k.parent,iA k.g.ops,iA k.g.bV,iA k.g.x0,iA k.g.y0,iA k.g.x1,iA k.g.y1,bA k.g.void,iA k.g.mD]
theorem DM{k:cy}{v:Value}{l L:List UInt8}(hv:cS v l)(h:pb (kq k))(hs:k.bH<18446744073709551616)(hp:k.parent<18446744073709551616)(hb:k.g.void=true)(hl:l.length<=800000000)(hL:l++(cG 8 k.bH++cG 8 k.parent++wB (kq k))=L):CP [] 163 [.ptr 0 0,.agg (rO k)] (kl v l) (gS L):=by
 have q0:∀x∈[k.g.ops,k.g.bV,1],bw 1 x:=by
  have:=h (1,[k.g.ops,k.g.bV,p7 k.g.void]) (by simp[kq]);rw[hb] at this;exact this
 have q1:pb (gG k.g.x0 k.g.y0 k.g.x1 k.g.y1):=fun p hp=>h p (by rw[List.mem_singleton.1 hp];simp[kq]);have q2:∀x∈[k.g.mD],bw 4 x:=h (4,_) (by simp[kq]);unfold rO;rw[hb];refine ag aa rfl ?_;refine eX.of rfl rfl ?_;refine aI.az fun F hF=>?_;repeat' ((conv=>whnf);first|with_reducible apply af<;>intro _|(refine (wC (k:=8) (n:=k.bH) (by assumption) (by decide) (by decide) hs (zL hs) (by clear hs hp;omega)).use [0,1] rfl rfl ⟨⟨_,rfl,rfl⟩,ko,tU⟩ ?_;rintro _ _ ⟨rfl,v',d,G,hd,eJ,rfl⟩;have cY:=congrArg List.length hd;simp only[cN,bM,dZ,List.length_cons,List.length_nil] at cY;refine ⟨[],?_⟩)|(refine (wC (k:=8) (n:=k.parent) (by assumption) (by decide) (by decide) hp (zL hp) (by clear hs hp;omega)).use [0,1] rfl rfl ⟨⟨_,rfl,rfl⟩,ko,tU⟩ ?_;rintro _ _ ⟨rfl,v',d,G,hd,eJ,rfl⟩;have cY:=congrArg List.length hd;simp only[cN,bM,dZ,List.length_cons,List.length_nil] at cY;refine ⟨[],?_⟩)|(refine (kx (k:=1) (xs:=[k.g.ops,k.g.bV,1]) (by assumption) (by decide) (by decide) q0 (by simp) (by clear hs hp;omega)).use [0,1,3] rfl rfl ⟨⟨_,rfl,rfl⟩,ko,⟨_,rfl,rfl⟩,tU⟩ ?_;rintro _ _ ⟨rfl,v',d,G,hd,eJ,rfl⟩;have cY:=congrArg List.length hd;simp only[cN,bM,dZ,List.length_cons,List.length_nil] at cY;refine ⟨[],?_⟩)|(refine (LN (x0:=k.g.x0) (y0:=k.g.y0) (x1:=k.g.x1) (y1:=k.g.y1) (by assumption) q1 (by clear hs hp;omega) rfl).use [0,1] rfl rfl ⟨⟨_,rfl,rfl⟩,ko,tU⟩ ?_;rintro _ _ ⟨rfl,v',d,G,hd,eJ,rfl⟩;have cY:=congrArg List.length hd;simp only[cN,bM,dZ,List.length_cons,List.length_nil] at cY;refine ⟨[],?_⟩)|(refine (kx (k:=4) (xs:=[k.g.mD]) (by assumption) (by decide) (by decide) q2 (by simp) (by clear hs hp;omega)).use [0,1,4] rfl rfl ⟨⟨_,rfl,rfl⟩,ko,⟨_,rfl,rfl⟩,tU⟩ ?_;rintro _ _ ⟨rfl,v',d,G,hd,eJ,rfl⟩;have cY:=congrArg List.length hd;simp only[cN,bM,dZ,List.length_cons,List.length_nil] at cY;refine ⟨[],?_⟩)|(subst hF;refine aI.az fun F hF=>?_)|subst hF)
 all_goals (try conv=>whnf)
 all_goals refine gS.to ⟨rfl,_,_,_,rfl,by assumption,rfl⟩ ?_
 all_goals rw[<-hL]
 all_goals clear hL
 all_goals subst_vars
 all_goals simp[wB,kq,gG,p7,hb,List.append_assoc]
theorem Dl{k:cy}{v:Value}{l L:List UInt8}(hv:cS v l)(h:pb (kq k))(hs:k.bH<18446744073709551616)(hp:k.parent<18446744073709551616)(hb:k.g.void=false)(hl:l.length<=800000000)(hL:l++(cG 8 k.bH++cG 8 k.parent++wB (kq k))=L):CP [] 163 [.ptr 0 0,.agg (rO k)] (kl v l) (gS L):=by
 have q0:∀x∈[k.g.ops,k.g.bV,0],bw 1 x:=by
  have:=h (1,[k.g.ops,k.g.bV,p7 k.g.void]) (by simp[kq]);rw[hb] at this;exact this
 have q1:pb (gG k.g.x0 k.g.y0 k.g.x1 k.g.y1):=fun p hp=>h p (by rw[List.mem_singleton.1 hp];simp[kq]);have q2:∀x∈[k.g.mD],bw 4 x:=h (4,_) (by simp[kq]);unfold rO;rw[hb];refine ag aa rfl ?_;refine eX.of rfl rfl ?_;refine aI.az fun F hF=>?_;repeat' ((conv=>whnf);first|with_reducible apply af<;>intro _|(refine (wC (k:=8) (n:=k.bH) (by assumption) (by decide) (by decide) hs (zL hs) (by clear hs hp;omega)).use [0,1] rfl rfl ⟨⟨_,rfl,rfl⟩,ko,tU⟩ ?_;rintro _ _ ⟨rfl,v',d,G,hd,eJ,rfl⟩;have cY:=congrArg List.length hd;simp only[cN,bM,dZ,List.length_cons,List.length_nil] at cY;refine ⟨[],?_⟩)|(refine (wC (k:=8) (n:=k.parent) (by assumption) (by decide) (by decide) hp (zL hp) (by clear hs hp;omega)).use [0,1] rfl rfl ⟨⟨_,rfl,rfl⟩,ko,tU⟩ ?_;rintro _ _ ⟨rfl,v',d,G,hd,eJ,rfl⟩;have cY:=congrArg List.length hd;simp only[cN,bM,dZ,List.length_cons,List.length_nil] at cY;refine ⟨[],?_⟩)|(refine (kx (k:=1) (xs:=[k.g.ops,k.g.bV,0]) (by assumption) (by decide) (by decide) q0 (by simp) (by clear hs hp;omega)).use [0,1,3] rfl rfl ⟨⟨_,rfl,rfl⟩,ko,⟨_,rfl,rfl⟩,tU⟩ ?_;rintro _ _ ⟨rfl,v',d,G,hd,eJ,rfl⟩;have cY:=congrArg List.length hd;simp only[cN,bM,dZ,List.length_cons,List.length_nil] at cY;refine ⟨[],?_⟩)|(refine (LN (x0:=k.g.x0) (y0:=k.g.y0) (x1:=k.g.x1) (y1:=k.g.y1) (by assumption) q1 (by clear hs hp;omega) rfl).use [0,1] rfl rfl ⟨⟨_,rfl,rfl⟩,ko,tU⟩ ?_;rintro _ _ ⟨rfl,v',d,G,hd,eJ,rfl⟩;have cY:=congrArg List.length hd;simp only[cN,bM,dZ,List.length_cons,List.length_nil] at cY;refine ⟨[],?_⟩)|(refine (kx (k:=4) (xs:=[k.g.mD]) (by assumption) (by decide) (by decide) q2 (by simp) (by clear hs hp;omega)).use [0,1,4] rfl rfl ⟨⟨_,rfl,rfl⟩,ko,⟨_,rfl,rfl⟩,tU⟩ ?_;rintro _ _ ⟨rfl,v',d,G,hd,eJ,rfl⟩;have cY:=congrArg List.length hd;simp only[cN,bM,dZ,List.length_cons,List.length_nil] at cY;refine ⟨[],?_⟩)|(subst hF;refine aI.az fun F hF=>?_)|subst hF)
 all_goals (try conv=>whnf)
 all_goals refine gS.to ⟨rfl,_,_,_,rfl,by assumption,rfl⟩ ?_
 all_goals rw[<-hL]
 all_goals clear hL
 all_goals subst_vars
 all_goals simp[wB,kq,gG,p7,hb,List.append_assoc]
