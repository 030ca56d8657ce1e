/- Part of the proof: Tn2 Snw Rdr Rdr2 Rdr3 Rdr4 Rdr5 Rdr6 Snw2. Conditions: as each states. -/
import Derived.Test.YtmbdghclhpboaaaGreatPw33
set_option linter.all false
set_option maxRecDepth 100000
namespace Go.Proofs.YtmbdghclhpboaaaGreat
open Ev
def RT(t:Tn)(ts:List (Int×Addr))(ns:List PN)(PB:List (Int×cw))(Ms:Nat->List (Int×Int)):List af:=[X4 t,.br (mE iK JH ts),.res (Bv t.wJ ns PB),.res (wK t.xS Ms)]
theorem MT{t:Tn}{ts:List (Int×Addr)}{ns:List PN}{PB:List (Int×cw)}{Ms:Nat->List (Int×Int)}{id:Int}(hi:Ea ns PB)(hn:cV id PB=none) :
  CP [] 139 [.ptr 0 0,iA id] (RT t ts ns PB Ms) (fun v H'=>v=bA false/\∃G,H'=RT t ts ns PB Ms++G):=by
 have h0:0<ns.length:=by obtain ⟨nd,h⟩:=hi.root;exact cM h
 refine ae U rfl ?_;repeat' ((conv=>whnf);first|with_reducible apply aa<;>intro _|(refine (OS (a:=t.wJ) (ns:=ns) (B:=PB) (id:=id) h0).use [2] rfl rfl ⟨ko,tU⟩ ?_;rintro _ _ ⟨rfl,rfl⟩;refine ⟨[],?_⟩;rw[hn]))
 all_goals (try conv=>whnf)
 exact ⟨rfl,_,rfl⟩
theorem P7{t:Tn}{ts:List (Int×Addr)}{ns:List PN}{PB:List (Int×cw)}{Ms:Nat->List (Int×Int)}{r:cw}(hi:Ea ns PB)(hn:cV r.id PB=none)(hf:fits r.x r.y=true)(hB:PB.length<=10000000) :
  CP [] 53 [.ptr 0 0,.agg (mF r)] (RT t ts ns PB Ms) (fun v H'=>v=aP/\∃kZ y3 G,Ea kZ (PB++[(r.id,r)])/\H'=RT t ts kZ (PB++[(r.id,r)]) y3++G):=by
 refine ae U rfl ?_;repeat' ((conv=>whnf);first|with_reducible apply aa<;>intro _|refine aJ.drawn U rfl rfl ?_|with_reducible refine And.intro (aG.mk ⟨_,rfl,rfl⟩) ?_|(refine (MT (t:=t) (ts:=ts) (Ms:=Ms) hi hn).use [0,1,2,3] rfl rfl ⟨⟨_,rfl,rfl⟩,⟨_,rfl,rfl⟩,ko,ko,tU⟩ ?_;rintro _ _ ⟨rfl,G,rfl⟩;refine ⟨[],?_⟩)|(refine (Vt (a:=t.wJ) (r:=r) hi hB).use [2] rfl rfl ⟨ko,tU⟩ ?_;rintro _ _ (⟨h1,_⟩|⟨_,h1,_⟩|⟨_,_,kZ,h1,j4,rfl,rfl⟩);(exfalso;rw[hf] at h1;cases h1);(exfalso;rw[hn] at h1;cases h1);refine ⟨[],?_⟩)|(refine (Vp (a:=t.xS) (Ms:=Ms) (x:=r.x) (y:=r.y)).use [3] rfl rfl ⟨ko,tU⟩ ?_;rintro _ _ ⟨rfl,y3,rfl⟩;refine ⟨[],?_⟩))
 all_goals (try conv=>whnf)
 all_goals exact ⟨rfl,kZ,y3,_,j4,rfl⟩
def bM.s(q:bM):List UInt8:=q.tx.data.toList
def fE(q:bM)(tk:List iL):Bool:=q.sound&&(decide ((gE q.s).2.err=0)&&(gE q.s).1.all Rl.ok&&tk.all fun x=>(cg x.l).isSome)
structure V1(q:bM)(tk:List iL)(t:Tn):Prop where
 M:t.M=Fv q.ms [(0,⟨0,0,0,65535,0,0⟩)]
 s:∃a0 ad,ad.length=q.ms.length/\t.ts=KT ((q.ms.map Mem.user).zip ad) [(0,a0)]/\t.tb=[(a0,[])]++ad.zip (tk.map iL.l)
 pt:Ea t.ns t.PB/\t.PB=q.rs.map fun r=>(r.id,r)
 cq:FD t.T/\t.CB=q.ss.map fun s=>(s.id,s)
 gr:Lf (gE q.s).1 t.ys t.np
 tr:t.es=q.es/\t.past=q.past
 tx:t.text=q.tx
def M1(R:aH)(q:bM)(tk:List iL)(v:AV)(H':List af):Prop:=
 (fE q tk=true/\v=.tuple [.ptr 2 0,iA 0]/\∃t G,V1 q tk t/\H'=[.res R,.cells q.a 28,.cells [iw t.wT,.map 3,iw t.wJ,iw t.y5,iw t.vW,iw t.xS,iw t.x8,.lit (.string t.text)] ML,.br (mE iK JH t.ts),.res (sH t.wT t.M),.res (mU t.tb),.res (Bv t.wJ t.ns t.PB),.res (Gf t.y5 t.T t.CB),.res (AB t.vW t.ys t.np),.res (wK t.xS t.Ms),.res (zq t.x8 t.es t.past)]++G) \/
 (fE q tk=false/\v=.tuple [.lit (.pointer none),iA 1]/\∃G,H'=.res R::G)
theorem PH{rv:Value}{rs:List cL}(h:(rv=aO/\rs=[])\/∃A m,rv=.slice (some A) rs.length m):∃A m,rv=.slice A rs.length m:=by
 rcases h with ⟨rfl,rfl⟩|⟨A,m,rfl⟩
 ·exact ⟨none,0,rfl⟩
 ·exact ⟨_,_,rfl⟩
theorem DT{q:bM}(h:q.sound=true):q.nt=q.ms.length:=by
 unfold bM.sound at h;rw[Bool.and_eq_true,decide_eq_true_eq] at h;exact h.1.1
theorem vl:∀{l:List Int} {x:Int},gL x l=true->∀y∈l,x<y
 | [],_,_,y,hy=>by simp at hy
 | z::l,x,h,y,hy=>by
   unfold gL at h;simp only[Bool.and_eq_true,decide_eq_true_eq] at h;rcases List.mem_cons.1 hy with rfl|hy
   ·omega
   ·have:=vl h.2 y hy;omega
theorem yP:∀{l:List Int} {x:Int},gL x l=true->l.Pairwise (·<·)
 | [],_,_=>.nil
 | z::l,x,h=>by
   unfold gL at h;simp only[Bool.and_eq_true,decide_eq_true_eq] at h;exact .cons (vl h.2) (yP h.2)
theorem Fb{l:List Int}(h:cA l=true):l.Pairwise (·<·):=by
 cases l with
 | nil=>exact .nil
 | cons x l=>exact .cons (vl h) (yP h)
theorem yf{κ α:Type}[DecidableEq κ]{k:κ}:∀{l:List (κ×α)} {i:Nat},(∀p∈l,p.1≠k)->iM k l i=none
 | [],_,_=>rfl
 | p::l,i,h=>by
   unfold iM;rw[if_neg (Ne.symm (h p (List.mem_cons_self ..)))];exact yf fun q hq=>h q (List.mem_cons_of_mem _ hq)
theorem vI{α:Type}{id:α->Int}{l:List α}(h:cA (l.map id)=true){k:Nat}(hk:k<l.length):cV (id l[k]) ((l.take k).map fun r=>(id r,r))=none:=by
 unfold cV;rw[yf]
 ·rfl
 ·intro p hp e;obtain ⟨r,hr,rfl⟩:=List.mem_map.1 hp;obtain ⟨i,hi,rfl⟩:=List.getElem_of_mem hr;rw[List.length_take] at hi;rw[List.getElem_take] at e;have QW:=Fb h;rw[List.pairwise_iff_getElem] at QW;have:=QW i k (by rw[List.length_map];omega) (by rw[List.length_map];omega) (by omega);simp only[List.getElem_map] at this;simp only[] at e;omega
def Cx(R:aH)(q:bM)(t:Tn):List af:=[.res R,.cells q.a 28,.cells [iw t.wT,.map 3,iw t.wJ,iw t.y5,iw t.vW,iw t.xS,iw t.x8,.lit (.string t.text)] ML,.br (mE iK JH t.ts),.res (sH t.wT t.M),.res (mU t.tb),.res (Bv t.wJ t.ns t.PB),.res (Gf t.y5 t.T t.CB),.res (AB t.vW t.ys t.np),.res (wK t.xS t.Ms),.res (zq t.x8 t.es t.past)]
structure Yo where
 k:Nat
 ns:List PN
 PB:List (Int×cw)
 Ms:Nat->List (Int×Int)
structure Yp where
 k:Nat
 T:QT
 CB:List (Int×eA)
structure YA(q:bM)(tk:List iL)(t:Tn):Prop where
 M:t.M=Fv q.ms [(0,⟨0,0,0,65535,0,0⟩)]
 s:∃a0 ad,ad.length=q.ms.length/\t.ts=KT ((q.ms.map Mem.user).zip ad) [(0,a0)]/\t.tb=[(a0,[])]++ad.zip (tk.map iL.l)
 ns:t.ns=[PN.leaf ⟨0,0,0⟩]/\t.PB=[]
 cq:FD t.T/\t.CB=[]
 gr:Lf (gE q.s).1 t.ys t.np
 tr:t.es=[]/\t.past=0
 tx:t.text=q.tx
theorem OT:Ea [PN.leaf ⟨0,0,0⟩] [] where
 wf:=by
  have hg:∀(i:Nat) (n:PN),(En [PN.leaf ⟨0,0,0⟩])[i]?=some n->n=PN.leaf ⟨0,0,0⟩:=fun i n h=>by
   rcases i with _|i
   ·exact (Option.some.inj h).symm
   ·simp[En] at h
  refine ⟨fun i n h=>?_,fun i n h hs=>?_,fun i n h _ _ _=>?_,fun x h=>?_,.nil⟩
  ·rw[hg i n h];rfl
  ·rw[hg i n h] at hs;cases hs
  ·rw[hg i n h];exact Nat.zero_le _
  ·simp at h
 root:=⟨_,rfl⟩
 len:=by simp
 hU:=Nat.le_refl _
theorem J2{q:bM}(h:q.sound=true):(∀r∈q.rs,r.bB=true)/\(∀s∈q.ss,s.bB=true)/\cA (q.rs.map (·.id))=true/\cA (q.ss.map (·.id))=true/\0<=q.past/\q.past<=4611686018427387903:=by
 unfold bM.sound bM.ak bM.yO bM.yT at h;simp only[Bool.and_eq_true,decide_eq_true_eq] at h;obtain ⟨⟨_,h1,h2⟩,⟨⟨_,⟨⟨⟨h3,h4⟩,_⟩,_⟩⟩,h5,h6⟩,_⟩:=h;exact ⟨List.all_eq_true.1 h5,List.all_eq_true.1 h6,h3,h4,h1,h2⟩
theorem MR{R:aH}{q:bM}{tk:List iL}(h:q.Rd R)(hk:q.Tk R tk)(h0:q.ms.length<=60000)(h1:q.rs.length<=60000)(h2:q.ss.length<=60000)(h3:q.es.length<=60000):CP [] 19 [.agg q.a] [.res R] (M1 R q tk):=by
 refine ae U rfl ?_;repeat' ((conv=>whnf);first|with_reducible apply aa<;>intro _|refine aJ.drawn U rfl rfl ?_|with_reducible refine And.intro (aG.mk ⟨_,rfl,rfl⟩) ?_|(refine (Qz h h0 h1 h2 (by omega)).use [0] rfl rfl ⟨ko,tU⟩ ?_;rintro _ _ ⟨rfl,G,rfl⟩;refine ⟨[],?_⟩)|(refine (VA (s:=q.s)).use [] rfl rfl trivial ?_;rintro _ _ (⟨_,rs,pl,hq,hb,hv,rfl,hl,G1,G2,G3,G,rfl⟩|⟨f,hq,hf,rfl⟩);obtain ⟨A,m,rfl⟩:=PH hv;refine ⟨[3,4],?_⟩;rotate_left;refine ⟨[],?_⟩;rotate_left)|(refine (SF (m:=m) hb hl).use [2,3] rfl rfl ⟨ko,ko,tU⟩ ?_;rintro _ _ (⟨fw,a,ys,np,rfl,hg,rfl⟩|⟨fw,rfl,G,rfl⟩);refine ⟨[2],?_⟩;rotate_left;refine ⟨[],?_⟩;rotate_left)|(refine NH.use [] rfl rfl trivial ?_;rintro _ _ ⟨a2,ys,np,G1,G2,rfl,hi,rfl⟩;refine ⟨[2],?_⟩)|(refine Se.use [] rfl rfl trivial ?_;rintro _ _ ⟨rfl,t,ht,rfl⟩;refine ⟨[0,1,2,3,4,5,6,7,8],?_⟩)|(refine (VM (t:=t) h hk (hk.nt.symm.trans (DT (by assumption))) h0).use [14,9,8,10,0] rfl rfl ⟨⟨_,rfl,rfl⟩,⟨_,rfl,rfl⟩,ko,ko,ko,tU⟩ ?_;rintro _ _ ⟨rfl,M,ts,tb,G,AW,rfl⟩;refine ⟨[],?_⟩))
 all_goals (try conv=>whnf)
 ·have G8:q.sound=true:=by assumption
  have Cv:(tk.all fun x=>(cg x.l).isSome)=true:=by assumption
  obtain ⟨NN,EB,GJ,YS,ZV,ZW⟩:=J2 G8;have himp:fE q tk=true:=by
   unfold fE;rw[G8,hq,Cv];simp only[jK.ok,decide_true,List.all_map,Bool.true_and,Bool.and_true];exact fw
  have r6:YA q tk { t with vW:=a,text:=q.tx,M:=M,ts:=ts,tb:=tb,ys:=ys,np:=np }:=by
   obtain ⟨hM,ad,gd,mR,Q3⟩:=AW Cv;obtain ⟨a0,h5,h6⟩:=ht.ts;have e1:q.ms.take q.ms.length=q.ms:=List.take_length;have e2:tk.take q.ms.length=tk:=by rw[<-DT G8,hk.nt];exact List.take_length
   rw[e1] at hM mR;rw[e2] at Q3;exact ⟨by rw[<-ht.M];exact hM,⟨a0,ad,gd,by rw[<-h5];exact mR,by rw[<-h6];exact Q3⟩,ht.ns,ht.cq,by rw[hq];exact hg,ht.tr,rfl⟩
  refine aJ.sub [0,1,14,9,8,10,6,11,5,12,13] (l:=[(1,.ptr 1 0),(8,.ptr 2 0),(52,.lit (.slice q.pd q.rs.length q.cr)),(53,iA q.rs.length),(54,iA (0:Nat))]) (H0:=Cx R q { t with vW:=a,text:=q.tx,M:=M,ts:=ts,tb:=tb,ys:=ys,np:=np }) ⟨rfl,⟨rr,rr,rr,rr,rr,tU⟩,⟨ko,⟨_,rfl,rfl⟩,⟨_,rfl,rfl⟩,⟨_,rfl,rfl⟩,ko,ko,ko,ko,ko,ko,ko,tU⟩⟩ ?_;generalize ({ t with vW:=a,text:=q.tx,M:=M,ts:=ts,tb:=tb,ys:=ys,np:=np }:Tn)=t0 at r6 ⊢;clear AW hg ht hb hq fw hv;refine aW U rfl (fun s:Yo=>[(1,.ptr 1 0),(8,.ptr 2 0),(52,.lit (.slice q.pd q.rs.length q.cr)),(53,iA q.rs.length),(54,iA (s.k:Nat))]) (fun s=>Cx R q { t0 with ns:=s.ns,PB:=s.PB,Ms:=s.Ms })
   (fun s=>s.k<=q.rs.length/\Ea s.ns s.PB/\s.PB=(q.rs.take s.k).map fun r=>(r.id,r)) (fun s=>q.rs.length - s.k) ⟨0,t0.ns,t0.PB,t0.Ms⟩ ⟨Nat.zero_le _,by rw[r6.ns.1,r6.ns.2];exact OT,by rw[r6.ns.2];rfl⟩ [0,1,2,3,4,5,6,7,8,9,10] ?_ ?_
  ·exact ⟨rfl,⟨rr,rr,rr,rr,rr,tU⟩,⟨ko,⟨_,rfl,rfl⟩,⟨_,rfl,rfl⟩,⟨_,rfl,rfl⟩,ko,ko,ko,ko,ko,ko,ko,tU⟩⟩
  ·rintro ⟨k,ns,PB,Ms⟩ ⟨gT,US,LF⟩;simp only[] at gT US LF;by_cases cB:k<q.rs.length
   ·obtain ⟨ad,lZ,bq⟩:=h.rs.at cB;simp only[lZ,Cx,bM.a];conv=>whnf
    refine aa (fun _=>?_) (ck cB);have r8:fits q.rs[k].x q.rs[k].y=true:=by
     have:=NN _ (List.getElem_mem cB);unfold cw.bB at this;rw[Bool.and_eq_true] at this;exact this.1
    have kM:cV q.rs[k].id PB=none:=by rw[LF];exact vI GJ cB
    have YM:PB.length<=10000000:=by rw[LF,List.length_map,List.length_take];omega
    repeat' ((conv=>whnf);first|with_reducible apply aa<;>intro _|refine aJ.drawn U rfl rfl ?_|with_reducible refine And.intro (aG.mk ⟨_,rfl,rfl⟩) ?_|refine ai.bJ U rfl rfl rfl rfl rfl cB ?_|refine ai.aR (i:=0) (v:=.agg (mF q.rs[k])) rfl (fun w S hR=>bq w S hR k cB) rfl rfl ?_|(refine (P7 (t:=t0) (ts:=t0.ts) (Ms:=Ms) (r:=q.rs[k]) US kM r8 YM).use [2,3,6,9] rfl rfl ⟨⟨_,rfl,rfl⟩,⟨_,rfl,rfl⟩,ko,ko,tU⟩ ?_;rintro _ _ ⟨rfl,kZ,y3,G,Xs,rfl⟩;refine ⟨[],?_⟩))
    all_goals (try conv=>whnf)
    exact ⟨⟨k+1,kZ,PB++[(q.rs[k].id,q.rs[k])],y3⟩,[0,1,2,3,4,5,6,7,8,9,10],⟨⟨cB,Xs,by show _=(q.rs.take (k+1)).map _;rw[bf cB,List.map_append,LF];rfl⟩,by show q.rs.length - (k+1)<q.rs.length - k;omega⟩,rfl,⟨rr,rr,rr,rr,⟨rfl,aw rfl (aj (by omega) (by omega))⟩,tU⟩,⟨ko,⟨_,rfl,rfl⟩,⟨_,rfl,rfl⟩,⟨_,rfl,rfl⟩,ko,ko,ko,ko,ko,ko,ko,tU⟩⟩
   ·obtain rfl:k=q.rs.length:=by omega
    rw[List.take_length] at LF;simp only[Cx,bM.a];conv=>whnf
    refine aa (cI cB) (fun _=>?_);repeat' ((conv=>whnf);first|with_reducible apply aa<;>intro _|refine aJ.drawn U rfl rfl ?_|with_reducible refine And.intro (aG.mk ⟨_,rfl,rfl⟩) ?_ )
    refine aW U rfl (fun s:Yp=>[(1,.ptr 1 0),(8,.ptr 2 0),(63,.lit (.slice q.os q.ss.length q.cs)),(64,iA q.ss.length),(65,iA (s.k:Nat))]) (fun s=>Cx R q { t0 with ns:=ns,PB:=PB,Ms:=Ms,T:=s.T,CB:=s.CB })
     (fun s=>s.k<=q.ss.length/\FD s.T/\s.CB=(q.ss.take s.k).map fun r=>(r.id,r)) (fun s=>q.ss.length - s.k) ⟨0,t0.T,t0.CB⟩ ⟨Nat.zero_le _,r6.cq.1,by rw[r6.cq.2];rfl⟩ [0,1,2,3,4,5,6,7,8,9,10] ?_ ?_
    ·exact ⟨rfl,⟨rr,rr,rr,rr,rr,tU⟩,⟨ko,⟨_,rfl,rfl⟩,⟨_,rfl,rfl⟩,⟨_,rfl,rfl⟩,ko,ko,ko,ko,ko,ko,ko,tU⟩⟩
    ·rintro ⟨k,T,CB⟩ ⟨gT,hT,NK⟩;simp only[] at gT hT NK;by_cases cB:k<q.ss.length
     ·obtain ⟨ad,lZ,bq⟩:=h.ss.at cB;simp only[lZ,Cx,bM.a];conv=>whnf
      refine aa (fun _=>?_) (ck cB);have Zj:oo q.ss[k].x0 q.ss[k].y0 q.ss[k].x1 q.ss[k].y1=true:=by
       have:=EB _ (List.getElem_mem cB);unfold eA.bB at this;rw[Bool.and_eq_true] at this;exact this.1
      have kM:cV q.ss[k].id CB=none:=by rw[NK];exact vI YS cB
      repeat' ((conv=>whnf);first|with_reducible apply aa<;>intro _|refine aJ.drawn U rfl rfl ?_|with_reducible refine And.intro (aG.mk ⟨_,rfl,rfl⟩) ?_|refine ai.bJ U rfl rfl rfl rfl rfl cB ?_|refine ai.aR (i:=0) (v:=.agg (sM q.ss[k])) rfl (fun w S hR=>bq w S hR k cB) rfl rfl ?_|(refine (TF (a:=t0.y5) (s:=q.ss[k]) hT Zj kM).use [7] rfl rfl ⟨ko,tU⟩ ?_;rintro _ _ ⟨rfl,T',rfl,fT⟩;refine ⟨[],?_⟩))
      all_goals (try conv=>whnf)
      exact ⟨⟨k+1,T',CB++[(q.ss[k].id,q.ss[k])]⟩,[0,1,2,3,4,5,6,7,8,9,10],⟨⟨cB,fT,by show _=(q.ss.take (k+1)).map _;rw[bf cB,List.map_append,NK];rfl⟩,by show q.ss.length - (k+1)<q.ss.length - k;omega⟩,rfl,⟨rr,rr,rr,rr,⟨rfl,aw rfl (aj (by omega) (by omega))⟩,tU⟩,⟨ko,⟨_,rfl,rfl⟩,⟨_,rfl,rfl⟩,⟨_,rfl,rfl⟩,ko,ko,ko,ko,ko,ko,ko,tU⟩⟩
     ·obtain rfl:k=q.ss.length:=by omega
      rw[List.take_length] at NK;simp only[Cx,bM.a];conv=>whnf
      refine aa (cI cB) (fun _=>?_);have zc:qJ t0.past q.past=(true,q.past):=by
       rw[r6.tr.2];unfold qJ;rw[if_neg (by omega)];simp
      repeat' ((conv=>whnf);first|with_reducible apply aa<;>intro _|refine aJ.drawn U rfl rfl ?_|with_reducible refine And.intro (aG.mk ⟨_,rfl,rfl⟩) ?_|(refine (Tp (a:=t0.x8) (es:=t0.es) (past:=t0.past) (n:=q.past) (by rw[r6.tr.2];omega)).use [10] rfl rfl ⟨ko,tU⟩ ?_;rintro _ _ ⟨rfl,rfl⟩;refine ⟨[],?_⟩;rw[zc]))
      refine aW U rfl (fun s:Nat×List jU=>[(1,.ptr 1 0),(8,.ptr 2 0),(85,.lit (.slice q.oe q.es.length q.ce)),(86,iA q.es.length),(87,iA (s.1:Nat))]) (fun s=>Cx R q { t0 with ns:=ns,PB:=PB,Ms:=Ms,T:=T,CB:=CB,past:=q.past,es:=s.2 })
       (fun s=>s.1<=q.es.length/\s.2=q.es.take s.1) (fun s=>q.es.length - s.1) (0,t0.es) ⟨Nat.zero_le _,r6.tr.1⟩ [0,1,2,3,4,5,6,7,8,9,10] ?_ ?_
      ·exact ⟨rfl,⟨rr,rr,rr,rr,rr,tU⟩,⟨ko,⟨_,rfl,rfl⟩,⟨_,rfl,rfl⟩,⟨_,rfl,rfl⟩,ko,ko,ko,ko,ko,ko,ko,tU⟩⟩
      ·rintro ⟨k,es⟩ ⟨gT,qh⟩;simp only[] at gT qh;by_cases cB:k<q.es.length
       ·obtain ⟨ad,lZ,bq⟩:=h.es.at cB;simp only[lZ,Cx,bM.a];conv=>whnf
        refine aa (fun _=>?_) (ck cB);repeat' ((conv=>whnf);first|with_reducible apply aa<;>intro _|refine aJ.drawn U rfl rfl ?_|with_reducible refine And.intro (aG.mk ⟨_,rfl,rfl⟩) ?_|refine ai.bJ U rfl rfl rfl rfl rfl cB ?_|refine ai.aR (i:=0) (v:=.agg (Gq q.es[k])) rfl (fun w S hR=>bq w S hR k cB) rfl rfl ?_|(refine (To (a:=t0.x8) (es:=es) (past:=q.past) (e:=q.es[k]) (by rw[qh,List.length_take];omega)).use [10] rfl rfl ⟨ko,tU⟩ ?_;rintro _ _ ⟨rfl,rfl⟩;refine ⟨[],?_⟩))
        all_goals (try conv=>whnf)
        exact ⟨(k+1,es++[q.es[k]]),[0,1,2,3,4,5,6,7,8,9,10],⟨⟨cB,by show _=q.es.take (k+1);rw[bf cB,qh]⟩,by show q.es.length - (k+1)<q.es.length - k;omega⟩,rfl,⟨rr,rr,rr,rr,⟨rfl,aw rfl (aj (by omega) (by omega))⟩,tU⟩,⟨ko,⟨_,rfl,rfl⟩,⟨_,rfl,rfl⟩,⟨_,rfl,rfl⟩,ko,ko,ko,ko,ko,ko,ko,tU⟩⟩
       ·obtain rfl:k=q.es.length:=by omega
        rw[List.take_length] at qh;simp only[Cx,bM.a];conv=>whnf
        refine aa (cI cB) (fun _=>?_);repeat' ((conv=>whnf);first|with_reducible apply aa<;>intro _|refine aJ.drawn U rfl rfl ?_|with_reducible refine And.intro (aG.mk ⟨_,rfl,rfl⟩) ?_ )
        all_goals (try conv=>whnf)
        exact .inl ⟨himp,rfl,{ t0 with ns:=ns,PB:=PB,Ms:=Ms,T:=T,CB:=CB,past:=q.past,es:=es },[],⟨r6.M,r6.s,⟨US,LF⟩,⟨hT,NK⟩,r6.gr,⟨qh,rfl⟩,r6.tx⟩,rfl⟩
 ·have Cv:(tk.all fun x=>(cg x.l).isSome)=false:=by assumption
  have himp:fE q tk=false:=by
   unfold fE;rw[Cv];simp
  exact .inr ⟨himp,rfl,_,rfl⟩
 ·have himp:fE q tk=false:=by
   unfold fE;have e:(rs.map cL.x).all Rl.ok=false:=by rw[List.all_map];exact fw
   rw[hq,e];simp
  exact .inr ⟨himp,rfl,_,rfl⟩
 ·have himp:fE q tk=false:=by
   unfold fE;rw[hq];simp[hf]
  exact .inr ⟨himp,rfl,_,rfl⟩
 ·have hx:((f.err:Int) != 0)=false:=by assumption
  exact absurd (by simpa using hx) hf
 ·have G8:q.sound=false:=by assumption
  have himp:fE q tk=false:=by
   unfold fE;rw[G8];rfl
  exact .inr ⟨himp,rfl,_,rfl⟩
end Go.Proofs.YtmbdghclhpboaaaGreat
namespace Go.Proofs.YtmbdghclhpboaaaGreat
open Ev Go.RowKit Go.Lib
abbrev cK:TypeId:=5
abbrev J7:TypeId:=31
abbrev ZF:TypeId:=64
theorem sW:jE ev J7 cK 1:=⟨⟨_,rfl,rfl⟩,_,_,rfl,rfl,rfl,rfl,by decide⟩
theorem J5{w:World}{v:Value}{l:List UInt8}{tt:TypeId}{s:List UInt8}{v':Value}{w':World}(lO:Own cj 1 cK w 0 v l)(WH:l.length+s.length<=1000000000000)(hr:(Builtin.append_ #[J7,9] tt #[v,cU s]).run Tryz.prog w=.ok v' w')(hn:v'=.slice none 0 0↔v=.slice none 0 0/\s.length=0) :
  ∀b,v'.ownBlock=some b->v.ownBlock=some b\/w.heap.size<=b:=by
 obtain ⟨i,z,hi,hz,iW,EE,rp⟩:=vK.inf;have On:z=.int .u8 0:=by
  have:(Tryz.prog.info? 5).map (·.zero)=some (some (.int .u8 0)):=by kernel_rfl
  rw[hi,Option.map_some,Option.some.injEq,hz,Option.some.injEq] at this;exact this
 rw[On] at hz;have Cu:(⟨s.toArray⟩:ByteArray).size=s.length:=pR s;rcases lO.2 with ⟨rfl,h0⟩|⟨g,cap,cur,rfl,hb,hg,h1,h2,h3,h4⟩
 ·by_cases G7:s.length=0
  ·rw[hn.2 ⟨rfl,G7⟩];intro b hb;simp[Value.ownBlock] at hb
  ·have h5:=run_append_nil_string (P:=Tryz.prog) w J7 9 tt cK i (.int .u8 0) Tryz.underlying31 Tryz.underlying9 hi hz ⟨s.toArray⟩ (by rw[Cu];omega) (by rw[Cu];omega) (by rw[Cu,EE];omega);have h6:=hr.symm.trans h5;injection h6 with h6 h7;rw[h6];intro b hb;simp only[Value.ownBlock,Option.some.injEq] at hb;exact .inr (by omega)
 ·by_cases jd:l.length+s.length<=cap
  ·have h5:=run_append_room_string (P:=Tryz.prog) w J7 9 tt cK i Tryz.underlying31 Tryz.underlying9 hi iW g l.length cap cur hg ⟨s.toArray⟩ (by rw[Cu];exact jd) (by rw[Cu];omega);have h6:=hr.symm.trans h5;injection h6 with h6 h7;rw[h6];intro b hb;exact .inl hb
  ·have h5:=run_append_grow_string (P:=Tryz.prog) w J7 9 tt cK i (.int .u8 0) Tryz.underlying31 Tryz.underlying9 hi hz ⟨g,0,none⟩ l.length cap (l.flatMap cj) (by rw[eL gO,iW]) (World.ownsRow.cells lO (g:=g) rfl) ⟨s.toArray⟩ (by rw[Cu];omega) (by rw[Cu];omega) (by rw[Cu,EE];exact growslice_fits (by omega) (by omega));have h6:=hr.symm.trans h5;injection h6 with h6 h7;rw[h6];intro b hb;simp only[Value.ownBlock,Option.some.injEq] at hb;exact .inr (by omega)
theorem eU.Qj{S:List Nat}{t:ax}{H:List af}{K:AV->List af->Prop}{c:Call}{s x:Operand}{v:Value}{l tx:List UInt8}{i:Nat}{R R1:aH}{R':Value->aH}
  (hc:c={ callee:=.builtin .append,args:=#[s,x],argTypes:=#[J7,9] }) (hs:aE t s=some (.lit v)) (hx:aE t x=some (.lit (cU tx))) (hi:H[i]?=some (.res R))
  (lM:∀w S,R.at_ w S->bw [aB cj 1 cK v l,R1] w S) (tK:∀v' w S,bw [aB cj 1 cK v' (l++tx),R1] w S->(R' v').at_ w S) (hlen:l.length+tx.length<=1000000000000)
  (kk:∀v',ep v' (l++tx)->lS H i (.res (R' v')) fun H'=>K (.lit v') H'):eU Tryz.prog S t H (.call c) K:=by
 refine eU.Sx hc hs hx hi lM tK (fun F γ w tt cJ lO=>?_) kk;obtain ⟨i,z,hi,hz,iW,EE,rp⟩:=vK.inf;have On:z=.int .u8 0:=by
  have:(Tryz.prog.info? 5).map (·.zero)=some (some (.int .u8 0)):=by kernel_rfl
  rw[hi,Option.map_some,Option.some.injEq,hz,Option.some.injEq] at this;exact this
 rw[On] at hz;obtain ⟨v',w',hr,h2,h3,h4⟩:=run_append_own_string (P:=Tryz.prog) w 0 J7 9 tt cK i Tryz.underlying31 Tryz.underlying9 hi hz iW EE v l.length _ lO ⟨tx.toArray⟩ (by rw[pR];unfold maxLen;omega) (by rw[pR];omega) (Nat.zero_le _);rw[Fp,pR] at h2;refine ⟨v',w',hr,?_,h3,J5 lO hlen hr (by rw[pR] at h4;exact h4)⟩;unfold Own;rw[List.flatMap_append,List.length_append];exact h2
theorem XK{k n:Nat}{H:List af}{K:AV->List af->Prop}(h1:1<=k)(h2:k<=8)(hn:n<18446744073709551616)(hk:n<256 ^ k)(eO:Nat.blt H.length aU=true)
  (kk:∀a m R,(∀w S,R.at_ w S->∃b off,some a=some ⟨b,off,none⟩/\gZ w b off ((bZ k n).flatMap cj))->K (.tuple [.lit (.slice (some a) (bZ k n).length m),iA 0]) (H++[.res R])):CP [] 165 [uA n,iA k] H K:=by
 have hl:(bZ k n).length=k:=bF k n;have aN:bZ k n≠[]:=fun e=>by rw[e] at hl;simp at hl;omega
 refine ag.Hq U rfl (ι:=Addr×Nat) (fun i=>.tuple [.lit (.slice (some i.1) (bZ k n).length i.2),iA 0]) (fun i base w'=>Own cj 1 cK w' base (.slice (some i.1) (bZ k n).length i.2) (bZ k n)) rfl eO ?_ ?_
 ·intro w;refine (nu n k w h1 h2 hn hk).mono ?_;rintro e w' ⟨v,rfl,ho,hb⟩;obtain ⟨A,cap,rfl⟩:=ho.form;obtain ⟨b,off,rfl,_,_⟩:=j8 ho aN;exact ⟨(_,cap),_,rfl,rfl,ho,hb⟩
 ·rintro ⟨a,m⟩ base w' _ ho;refine kk a m _ fun w S hw=>?_;obtain ⟨b,off,h3,_,h4⟩:=j8 (DS ho hw) aN;exact ⟨b,off,h3,h4⟩
theorem s8:∀(a:UInt8),∀u∈cj a,u.oneCell'=true:=fun a u hu=>Eh.one a u hu
theorem me{v:Value}{l:List UInt8}(w:World)(S:Nat->Prop)(h:(aB cj 1 cK v l).at_ w S):bw [aB cj 1 cK v l,aA] w S:=
 ⟨S,fun _=>False,h,⟨fun _=>False,fun _=>False,fun _ h=>h,fun _ h=>h,fun _ h _=>h,fun b=>by simp⟩,fun _ _ h=>h,fun b=>by simp⟩
theorem oD{v:Value}{l:List UInt8}(w:World)(S:Nat->Prop)(h:bw [aB cj 1 cK v l,aA] w S):(aB cj 1 cK v l).at_ w S:=by
 obtain ⟨S1,S2,h1,⟨T1,T2,k1,k2,_,ri⟩,_,hS⟩:=h;refine ⟨h1.1,fun b=>?_⟩;rw[hS b,ri b];have e1:=h1.2 b;have e2:=k1 b;have e3:=k2 b;simp only[e2,e3,or_false];exact e1
def jD(v:Value)(l:List UInt8):List af:=[.cells [.lit v] ZF,.res (aB cj 1 cK v l)]
def gv(l:List UInt8)(v:AV)(H':List af):Prop:=v=aP/\∃v' d G,d=l/\ep v' d/\H'=jD v' d++G
theorem lG{α:Type}{v:Value}{l:List α}(h:ep v l)(aN:l≠[]):∃A n,v=.slice (some A) l.length n:=by
 rcases h with ⟨_,h⟩|h
 ·exact absurd h aN
 ·exact h
theorem vC{k n:Nat}{v:Value}{l:List UInt8}(hv:ep v l)(h1:1<=k)(h2:k<=8)(hn:n<18446744073709551616)(hk:n<256 ^ k)(hl:l.length<=1000000000):CP [] 88 [.ptr 0 0,iA k,uA n] (jD v l) (gv (l++bZ k n)):=by
 have AF:(bZ k n).length=k:=bF k n;have aN:bZ k n≠[]:=fun e=>by rw[e] at AF;simp at AF;omega
 rcases hv with ⟨rfl,rfl⟩|⟨A,c,rfl⟩;all_goals
  refine ae U rfl ?_
  repeat' ((conv=>whnf);first|with_reducible apply aa<;>intro _|(refine XK h1 h2 hn hk rfl fun a m R hR=>?_)|(refine ai.om (eU.Tm U sW gO (by decide) s8 (i:=1) (j:=2) (l2:=bZ k n) (R1:=aA) (R':=fun v'=>aB cj 1 cK v' (_++bZ k n)) rfl rfl rfl aN rfl rfl hR me (fun v'=>oD) (by first|omega|(simp only[List.length_nil];omega)) fun v' dU=>?_);obtain ⟨A',n',rfl⟩:=lG dU (by simp[aN])))
  all_goals (try conv=>whnf)
  exact ⟨rfl,_,_,_,rfl,dU,rfl⟩
abbrev bs(k:Nat)(x:Int):List UInt8:=bZ k x.toNat
def bm(k:Nat)(x:Int):Prop:=0<=x/\x<256 ^ k/\x<9223372036854775808
theorem bm.u64{k:Nat}{x:Int}(h:bm k x):IntKind.u64.wrap x=((x.toNat:Nat):Int):=by
 have h1:=h.1;have h2:=h.2.2;rw[Int.toNat_of_nonneg h1];rw[IntKind.wrap_u64];omega
theorem bm.lt{k:Nat}{x:Int}(h:bm k x):x.toNat<256 ^ k:=by
 have h1:=h.1;have h2:=h.2.1;have:((x.toNat:Nat):Int)<((256 ^ k:Nat):Int):=by rw[Int.toNat_of_nonneg h1];norm_cast at h2 ⊢
 exact Int.ofNat_lt.1 this
theorem ee{α β:Type}{f:α->List β}{k:Nat}(hk:∀a,(f a).length=k):∀l:List α,(l.flatMap f).length=l.length * k
 | []=>by simp
 | a::l=>by rw[List.flatMap_cons,List.length_append,hk,ee hk l,List.length_cons,Nat.add_mul];omega
structure Li where
 i:Nat
 v:Value
theorem jI{k:Nat}{xs:List Int}{v:Value}{l:List UInt8}(hv:ep v l)(h1:1<=k)(h2:k<=8)(hx:∀x∈xs,bm k x)(hn:xs.length<=1000)(hl:l.length<=900000000):CP [] 80 [.ptr 0 0,iA k,.slice 2 0 xs.length (.k xs.length)] (jD v l++[.row (xs.map iK) 3]) (fun u H'=>u=aP/\∃v' d G,d=l++xs.flatMap (bs k)/\ep v' d/\H'=jD v' d++.row (xs.map iK) 3::G):=by
 refine ae U rfl ?_;conv=>whnf
 refine aW U rfl (fun s:Li=>[(0,.ptr 0 0),(1,iA k),(8,.slice 2 0 xs.length (.k xs.length)),(9,iA xs.length),(10,iA (s.i:Nat))]) (fun s=>jD s.v (l++(xs.take s.i).flatMap (bs k))++[.row (xs.map iK) 3])
  (fun s=>s.i<=xs.length/\ep s.v (l++(xs.take s.i).flatMap (bs k))) (fun s=>xs.length - s.i) ⟨0,v⟩ ⟨Nat.zero_le _,by simpa using hv⟩ [0,1,2] ?_ ?_
 ·exact ⟨rfl,⟨rr,rr,rr,rr,rr,tU⟩,⟨⟨_,rfl,rfl⟩,⟨_,rfl,by simp only[List.take_zero,List.flatMap_nil,List.append_nil];exact fun _ _ h=>h⟩,⟨_,rfl,rfl⟩,tU⟩⟩
 ·rintro ⟨i,v⟩ ⟨j5,hv⟩;simp only[] at j5 hv;by_cases hi:i<xs.length
  ·have Jt:=hx _ (List.getElem_mem hi);have hw:=Jt.u64;have hlen:(l++(xs.take i).flatMap (bs k)).length<=1000000000:=by
    have:((xs.take i).flatMap (bs k)).length=(xs.take i).length * k:=ee (fun x:Int=>bF k x.toNat) _;rw[List.length_append,this,List.length_take];have:min i xs.length * k<=1000 * 8:=Nat.mul_le_mul (by omega) h2;omega
   conv=>whnf
   refine aa (fun _=>?_) (ck hi);repeat' ((conv=>whnf);first|with_reducible apply aa<;>intro _|refine aI.of (k:=i) rfl hi ?_|refine df.val hi ?_|(refine (vC (k:=k) (n:=xs[i].toNat) hv h1 h2 (by have:=Jt.2.2;omega) Jt.lt hlen).use [0,1] (by rw[hw];rfl) rfl ⟨⟨_,rfl,rfl⟩,ko,tU⟩ ?_;rintro _ _ ⟨rfl,v',d,G,rfl,dU,rfl⟩;refine ⟨[],?_⟩))
   all_goals (try conv=>whnf)
   have e:l++(xs.take (i+1)).flatMap (bs k)=l++(xs.take i).flatMap (bs k)++bZ k xs[i].toNat:=by
    rw[bf hi,List.flatMap_append,List.append_assoc];simp
   refine ⟨⟨i+1,v'⟩,[0,1,2],⟨⟨hi,by show ep v' (l++(xs.take (i+1)).flatMap (bs k));rw[e];exact dU⟩,by show xs.length - (i+1)<xs.length - i;omega⟩,rfl,⟨rr,rr,rr,rr,⟨rfl,aw rfl (aj (by dsimp only;omega) (by dsimp only;omega))⟩,tU⟩,⟨⟨_,rfl,rfl⟩,⟨_,rfl,?_⟩,⟨_,rfl,rfl⟩,tU⟩⟩;show ∀w S,(aB cj 1 cK v' _).at_ w S->(aB cj 1 cK v' (l++(xs.take (i+1)).flatMap (bs k))).at_ w S
   rw[e];exact fun _ _ h=>h
  ·obtain rfl:i=xs.length:=by omega
   rw[List.take_length] at hv;conv=>whnf
   refine aa (cI hi) (fun _=>?_);repeat' ((conv=>whnf);with_reducible apply aa<;>intro _)
   all_goals (try conv=>whnf)
   refine ⟨rfl,v,_,[],rfl,hv,?_⟩;show jD v (l++(xs.take xs.length).flatMap (bs k))++[af.row (xs.map iK) 3]=_
   rw[List.take_length]
end Go.Proofs.YtmbdghclhpboaaaGreat
namespace Go.Proofs.YtmbdghclhpboaaaGreat
open Ev
def VF(s:eA):List Value:=[iK s.id,iK s.x0,iK s.y0,iK s.x1,iK s.y1,iK s.label]
theorem Is(s:eA):(VF s).length=6:=rfl
def mL(m:Mem):List Value:=[iK m.user,iK m.role,iK m.jq,iK m.fH,iK m.k,.int .u64 m.cf]
theorem KK(m:Mem):(mL m).length=6:=rfl
def wB(ps:List (Nat×List Int)):List UInt8:=ps.flatMap fun p=>p.2.flatMap (bs p.1)
def oB(ps:List (Nat×List Int)):Prop:=∀p∈ps,∀x∈p.2,bm p.1 x
theorem cu{l:List UInt8}{k:Nat}{xs:List Int}:(l++xs.flatMap (bs k)).length=l.length+xs.length * k:=by
 rw[List.length_append,ee (fun x:Int=>bF k x.toNat)]
theorem bE{l:List UInt8}{k n:Nat}:(l++bZ k n).length=l.length+k:=by rw[List.length_append,bF]
theorem yM{n:Nat}(h:n<18446744073709551616):n<256 ^ 8:=Nat.lt_of_lt_of_eq h (by decide)
theorem gv.to{l l':List UInt8}{v:AV}{H':List af}(h:gv l v H')(e:l=l'):gv l' v H':=e ▸ h
def fX(x0 y0 x1 y1:Int):List (Nat×List Int):=[(2,[x0,y0,x1,y1])]
theorem dD{l:List UInt8}{x0 y0 x1 y1:Int}:(l++wB (fX x0 y0 x1 y1)).length=l.length+8:=by
 have e:wB (fX x0 y0 x1 y1)=[x0,y0,x1,y1].flatMap (bs 2):=by simp[wB,fX]
 rw[e,cu];rfl
theorem Kh{x0 y0 x1 y1:Int}{v:Value}{l L:List UInt8}(hv:ep v l)(h:oB (fX x0 y0 x1 y1))(hl:l.length<=850000000)(hL:l++wB (fX x0 y0 x1 y1)=L):CP [] 164 [.ptr 0 0,.agg [iA x0,iA y0,iA x1,iA y1]] (jD v l) (gv L):=by
 have q0:∀x∈[x0,y0,x1,y1],bm 2 x:=h (2,_) (by simp[fX]);refine ae U rfl ?_;refine eP.of rfl rfl ?_;refine aF.au fun F hF=>?_;repeat' ((conv=>whnf);first|with_reducible apply aa<;>intro _|(refine (jI (k:=2) (xs:=[x0,y0,x1,y1]) (by assumption) (by decide) (by decide) q0 (by simp) (by omega)).use [0,1,3] rfl rfl ⟨⟨_,rfl,rfl⟩,ko,⟨_,rfl,rfl⟩,tU⟩ ?_;rintro _ _ ⟨rfl,v',d,G,hd,dU,rfl⟩;have cF:=congrArg List.length hd;simp only[cu,bE,List.length_cons,List.length_nil] at cF;refine ⟨[],?_⟩)|(subst hF;refine aF.au fun F hF=>?_)|subst hF)
 all_goals (try conv=>whnf)
 all_goals refine gv.to ⟨rfl,_,_,_,rfl,by assumption,rfl⟩ ?_
 all_goals rw[<-hL]
 all_goals clear hL
 all_goals subst_vars
 all_goals simp[wB,fX,fX,List.append_assoc]
def dL(r:cw):List (Nat×List Int):=[(2,[r.id,r.x,r.y]),(1,[r.label])]
theorem Qa{r:cw}{v:Value}{l L:List UInt8}(hv:ep v l)(h:oB (dL r))(hl:l.length<=800000000)(hL:l++wB (dL r)=L):CP [] 83 [.ptr 0 0,.agg (mF r)] (jD v l) (gv L):=by
 have q0:∀x∈[r.id,r.x,r.y],bm 2 x:=h (2,_) (by simp[dL]);have q1:∀x∈[r.label],bm 1 x:=h (1,_) (by simp[dL]);refine ae U rfl ?_;refine eP.of rfl rfl ?_;refine aF.au fun F hF=>?_;repeat' ((conv=>whnf);first|with_reducible apply aa<;>intro _|(refine (jI (k:=2) (xs:=[r.id,r.x,r.y]) (by assumption) (by decide) (by decide) q0 (by simp) (by omega)).use [0,1,3] rfl rfl ⟨⟨_,rfl,rfl⟩,ko,⟨_,rfl,rfl⟩,tU⟩ ?_;rintro _ _ ⟨rfl,v',d,G,hd,dU,rfl⟩;have cF:=congrArg List.length hd;simp only[cu,bE,dD,List.length_cons,List.length_nil] at cF;refine ⟨[],?_⟩)|(refine (jI (k:=1) (xs:=[r.label]) (by assumption) (by decide) (by decide) q1 (by simp) (by omega)).use [0,1,4] rfl rfl ⟨⟨_,rfl,rfl⟩,ko,⟨_,rfl,rfl⟩,tU⟩ ?_;rintro _ _ ⟨rfl,v',d,G,hd,dU,rfl⟩;have cF:=congrArg List.length hd;simp only[cu,bE,dD,List.length_cons,List.length_nil] at cF;refine ⟨[],?_⟩)|(subst hF;refine aF.au fun F hF=>?_)|subst hF)
 all_goals (try conv=>whnf)
 all_goals refine gv.to ⟨rfl,_,_,_,rfl,by assumption,rfl⟩ ?_
 all_goals rw[<-hL]
 all_goals clear hL
 all_goals subst_vars
 all_goals simp[wB,dL,fX,List.append_assoc]
def dM(s:eA):List (Nat×List Int):=[(2,[s.id]),(2,[s.x0,s.y0,s.x1,s.y1]),(1,[s.label])]
theorem Sv{s:eA}{v:Value}{l L:List UInt8}(hv:ep v l)(h:oB (dM s))(hl:l.length<=800000000)(hL:l++wB (dM s)=L):CP [] 85 [.ptr 0 0,.agg (sM s)] (jD v l) (gv L):=by
 have q0:∀x∈[s.id],bm 2 x:=h (2,_) (by simp[dM]);have q1:oB (fX s.x0 s.y0 s.x1 s.y1):=fun p hp=>h p (by rw[List.mem_singleton.1 hp];simp[dM]);have q2:∀x∈[s.label],bm 1 x:=h (1,_) (by simp[dM]);refine ae U rfl ?_;refine eP.of rfl rfl ?_;refine aF.au fun F hF=>?_;repeat' ((conv=>whnf);first|with_reducible apply aa<;>intro _|(refine (jI (k:=2) (xs:=[s.id]) (by assumption) (by decide) (by decide) q0 (by simp) (by omega)).use [0,1,3] rfl rfl ⟨⟨_,rfl,rfl⟩,ko,⟨_,rfl,rfl⟩,tU⟩ ?_;rintro _ _ ⟨rfl,v',d,G,hd,dU,rfl⟩;have cF:=congrArg List.length hd;simp only[cu,bE,dD,List.length_cons,List.length_nil] at cF;refine ⟨[],?_⟩)|(refine (Kh (x0:=s.x0) (y0:=s.y0) (x1:=s.x1) (y1:=s.y1) (by assumption) q1 (by omega) rfl).use [0,1] rfl rfl ⟨⟨_,rfl,rfl⟩,ko,tU⟩ ?_;rintro _ _ ⟨rfl,v',d,G,hd,dU,rfl⟩;have cF:=congrArg List.length hd;simp only[cu,bE,dD,List.length_cons,List.length_nil] at cF;refine ⟨[],?_⟩)|(refine (jI (k:=1) (xs:=[s.label]) (by assumption) (by decide) (by decide) q2 (by simp) (by omega)).use [0,1,4] rfl rfl ⟨⟨_,rfl,rfl⟩,ko,⟨_,rfl,rfl⟩,tU⟩ ?_;rintro _ _ ⟨rfl,v',d,G,hd,dU,rfl⟩;have cF:=congrArg List.length hd;simp only[cu,bE,dD,List.length_cons,List.length_nil] at cF;refine ⟨[],?_⟩)|(subst hF;refine aF.au fun F hF=>?_)|subst hF)
 all_goals (try conv=>whnf)
 all_goals refine gv.to ⟨rfl,_,_,_,rfl,by assumption,rfl⟩ ?_
 all_goals rw[<-hL]
 all_goals clear hL
 all_goals subst_vars
 all_goals simp[wB,dM,fX,List.append_assoc]
def dF(e:jU):List (Nat×List Int):=[(2,[e.user]),(1,[e.op,e.status]),(4,[e.tick])]
theorem St{e:jU}{v:Value}{l L:List UInt8}(hv:ep v l)(h:oB (dF e))(hl:l.length<=800000000)(hL:l++wB (dF e)=L):CP [] 87 [.ptr 0 0,.agg (Gq e)] (jD v l) (gv L):=by
 have q0:∀x∈[e.user],bm 2 x:=h (2,_) (by simp[dF]);have q1:∀x∈[e.op,e.status],bm 1 x:=h (1,_) (by simp[dF]);have q2:∀x∈[e.tick],bm 4 x:=h (4,_) (by simp[dF]);refine ae U rfl ?_;refine eP.of rfl rfl ?_;refine aF.au fun F hF=>?_;repeat' ((conv=>whnf);first|with_reducible apply aa<;>intro _|(refine (jI (k:=2) (xs:=[e.user]) (by assumption) (by decide) (by decide) q0 (by simp) (by omega)).use [0,1,3] rfl rfl ⟨⟨_,rfl,rfl⟩,ko,⟨_,rfl,rfl⟩,tU⟩ ?_;rintro _ _ ⟨rfl,v',d,G,hd,dU,rfl⟩;have cF:=congrArg List.length hd;simp only[cu,bE,dD,List.length_cons,List.length_nil] at cF;refine ⟨[],?_⟩)|(refine (jI (k:=1) (xs:=[e.op,e.status]) (by assumption) (by decide) (by decide) q1 (by simp) (by omega)).use [0,1,4] rfl rfl ⟨⟨_,rfl,rfl⟩,ko,⟨_,rfl,rfl⟩,tU⟩ ?_;rintro _ _ ⟨rfl,v',d,G,hd,dU,rfl⟩;have cF:=congrArg List.length hd;simp only[cu,bE,dD,List.length_cons,List.length_nil] at cF;refine ⟨[],?_⟩)|(refine (jI (k:=4) (xs:=[e.tick]) (by assumption) (by decide) (by decide) q2 (by simp) (by omega)).use [0,1,5] rfl rfl ⟨⟨_,rfl,rfl⟩,ko,⟨_,rfl,rfl⟩,tU⟩ ?_;rintro _ _ ⟨rfl,v',d,G,hd,dU,rfl⟩;have cF:=congrArg List.length hd;simp only[cu,bE,dD,List.length_cons,List.length_nil] at cF;refine ⟨[],?_⟩)|(subst hF;refine aF.au fun F hF=>?_)|subst hF)
 all_goals (try conv=>whnf)
 all_goals refine gv.to ⟨rfl,_,_,_,rfl,by assumption,rfl⟩ ?_
 all_goals rw[<-hL]
 all_goals clear hL
 all_goals subst_vars
 all_goals simp[wB,dF,fX,List.append_assoc]
def ph(b:Bool):Int:=if b then 1 else 0
def jG(k:dN):List (Nat×List Int):=[(1,[k.g.ops,k.g.bO,ph k.g.void]),(2,[k.g.x0,k.g.y0,k.g.x1,k.g.y1]),(4,[k.g.mY])]
def vB(k:dN):List AV:=[uA k.bC,uA k.parent,iA k.g.ops,iA k.g.bO,iA k.g.x0,iA k.g.y0,iA k.g.x1,iA k.g.y1,bA k.g.void,iA k.g.mY]
theorem CG{k:dN}{v:Value}{l L:List UInt8}(hv:ep v l)(h:oB (jG k))(hs:k.bC<18446744073709551616)(hp:k.parent<18446744073709551616)(hb:k.g.void=true)(hl:l.length<=800000000)(hL:l++(bZ 8 k.bC++bZ 8 k.parent++wB (jG k))=L):CP [] 163 [.ptr 0 0,.agg (vB k)] (jD v l) (gv L):=by
 have q0:∀x∈[k.g.ops,k.g.bO,1],bm 1 x:=by
  have:=h (1,[k.g.ops,k.g.bO,ph k.g.void]) (by simp[jG]);rw[hb] at this;exact this
 have q1:oB (fX k.g.x0 k.g.y0 k.g.x1 k.g.y1):=fun p hp=>h p (by rw[List.mem_singleton.1 hp];simp[jG]);have q2:∀x∈[k.g.mY],bm 4 x:=h (4,_) (by simp[jG]);unfold vB;rw[hb];refine ae U rfl ?_;refine eP.of rfl rfl ?_;refine aF.au fun F hF=>?_;repeat' ((conv=>whnf);first|with_reducible apply aa<;>intro _|(refine (vC (k:=8) (n:=k.bC) (by assumption) (by decide) (by decide) hs (yM hs) (by clear hs hp;omega)).use [0,1] rfl rfl ⟨⟨_,rfl,rfl⟩,ko,tU⟩ ?_;rintro _ _ ⟨rfl,v',d,G,hd,dU,rfl⟩;have cF:=congrArg List.length hd;simp only[cu,bE,dD,List.length_cons,List.length_nil] at cF;refine ⟨[],?_⟩)|(refine (vC (k:=8) (n:=k.parent) (by assumption) (by decide) (by decide) hp (yM hp) (by clear hs hp;omega)).use [0,1] rfl rfl ⟨⟨_,rfl,rfl⟩,ko,tU⟩ ?_;rintro _ _ ⟨rfl,v',d,G,hd,dU,rfl⟩;have cF:=congrArg List.length hd;simp only[cu,bE,dD,List.length_cons,List.length_nil] at cF;refine ⟨[],?_⟩)|(refine (jI (k:=1) (xs:=[k.g.ops,k.g.bO,1]) (by assumption) (by decide) (by decide) q0 (by simp) (by clear hs hp;omega)).use [0,1,3] rfl rfl ⟨⟨_,rfl,rfl⟩,ko,⟨_,rfl,rfl⟩,tU⟩ ?_;rintro _ _ ⟨rfl,v',d,G,hd,dU,rfl⟩;have cF:=congrArg List.length hd;simp only[cu,bE,dD,List.length_cons,List.length_nil] at cF;refine ⟨[],?_⟩)|(refine (Kh (x0:=k.g.x0) (y0:=k.g.y0) (x1:=k.g.x1) (y1:=k.g.y1) (by assumption) q1 (by clear hs hp;omega) rfl).use [0,1] rfl rfl ⟨⟨_,rfl,rfl⟩,ko,tU⟩ ?_;rintro _ _ ⟨rfl,v',d,G,hd,dU,rfl⟩;have cF:=congrArg List.length hd;simp only[cu,bE,dD,List.length_cons,List.length_nil] at cF;refine ⟨[],?_⟩)|(refine (jI (k:=4) (xs:=[k.g.mY]) (by assumption) (by decide) (by decide) q2 (by simp) (by clear hs hp;omega)).use [0,1,4] rfl rfl ⟨⟨_,rfl,rfl⟩,ko,⟨_,rfl,rfl⟩,tU⟩ ?_;rintro _ _ ⟨rfl,v',d,G,hd,dU,rfl⟩;have cF:=congrArg List.length hd;simp only[cu,bE,dD,List.length_cons,List.length_nil] at cF;refine ⟨[],?_⟩)|(subst hF;refine aF.au fun F hF=>?_)|subst hF)
 all_goals (try conv=>whnf)
 all_goals refine gv.to ⟨rfl,_,_,_,rfl,by assumption,rfl⟩ ?_
 all_goals rw[<-hL]
 all_goals clear hL
 all_goals subst_vars
 all_goals simp[wB,jG,fX,ph,hb,List.append_assoc]
theorem Cd{k:dN}{v:Value}{l L:List UInt8}(hv:ep v l)(h:oB (jG k))(hs:k.bC<18446744073709551616)(hp:k.parent<18446744073709551616)(hb:k.g.void=false)(hl:l.length<=800000000)(hL:l++(bZ 8 k.bC++bZ 8 k.parent++wB (jG k))=L):CP [] 163 [.ptr 0 0,.agg (vB k)] (jD v l) (gv L):=by
 have q0:∀x∈[k.g.ops,k.g.bO,0],bm 1 x:=by
  have:=h (1,[k.g.ops,k.g.bO,ph k.g.void]) (by simp[jG]);rw[hb] at this;exact this
 have q1:oB (fX k.g.x0 k.g.y0 k.g.x1 k.g.y1):=fun p hp=>h p (by rw[List.mem_singleton.1 hp];simp[jG]);have q2:∀x∈[k.g.mY],bm 4 x:=h (4,_) (by simp[jG]);unfold vB;rw[hb];refine ae U rfl ?_;refine eP.of rfl rfl ?_;refine aF.au fun F hF=>?_;repeat' ((conv=>whnf);first|with_reducible apply aa<;>intro _|(refine (vC (k:=8) (n:=k.bC) (by assumption) (by decide) (by decide) hs (yM hs) (by clear hs hp;omega)).use [0,1] rfl rfl ⟨⟨_,rfl,rfl⟩,ko,tU⟩ ?_;rintro _ _ ⟨rfl,v',d,G,hd,dU,rfl⟩;have cF:=congrArg List.length hd;simp only[cu,bE,dD,List.length_cons,List.length_nil] at cF;refine ⟨[],?_⟩)|(refine (vC (k:=8) (n:=k.parent) (by assumption) (by decide) (by decide) hp (yM hp) (by clear hs hp;omega)).use [0,1] rfl rfl ⟨⟨_,rfl,rfl⟩,ko,tU⟩ ?_;rintro _ _ ⟨rfl,v',d,G,hd,dU,rfl⟩;have cF:=congrArg List.length hd;simp only[cu,bE,dD,List.length_cons,List.length_nil] at cF;refine ⟨[],?_⟩)|(refine (jI (k:=1) (xs:=[k.g.ops,k.g.bO,0]) (by assumption) (by decide) (by decide) q0 (by simp) (by clear hs hp;omega)).use [0,1,3] rfl rfl ⟨⟨_,rfl,rfl⟩,ko,⟨_,rfl,rfl⟩,tU⟩ ?_;rintro _ _ ⟨rfl,v',d,G,hd,dU,rfl⟩;have cF:=congrArg List.length hd;simp only[cu,bE,dD,List.length_cons,List.length_nil] at cF;refine ⟨[],?_⟩)|(refine (Kh (x0:=k.g.x0) (y0:=k.g.y0) (x1:=k.g.x1) (y1:=k.g.y1) (by assumption) q1 (by clear hs hp;omega) rfl).use [0,1] rfl rfl ⟨⟨_,rfl,rfl⟩,ko,tU⟩ ?_;rintro _ _ ⟨rfl,v',d,G,hd,dU,rfl⟩;have cF:=congrArg List.length hd;simp only[cu,bE,dD,List.length_cons,List.length_nil] at cF;refine ⟨[],?_⟩)|(refine (jI (k:=4) (xs:=[k.g.mY]) (by assumption) (by decide) (by decide) q2 (by simp) (by clear hs hp;omega)).use [0,1,4] rfl rfl ⟨⟨_,rfl,rfl⟩,ko,⟨_,rfl,rfl⟩,tU⟩ ?_;rintro _ _ ⟨rfl,v',d,G,hd,dU,rfl⟩;have cF:=congrArg List.length hd;simp only[cu,bE,dD,List.length_cons,List.length_nil] at cF;refine ⟨[],?_⟩)|(subst hF;refine aF.au fun F hF=>?_)|subst hF)
 all_goals (try conv=>whnf)
 all_goals refine gv.to ⟨rfl,_,_,_,rfl,by assumption,rfl⟩ ?_
 all_goals rw[<-hL]
 all_goals clear hL
 all_goals subst_vars
 all_goals simp[wB,jG,fX,ph,hb,List.append_assoc]
end Go.Proofs.YtmbdghclhpboaaaGreat
