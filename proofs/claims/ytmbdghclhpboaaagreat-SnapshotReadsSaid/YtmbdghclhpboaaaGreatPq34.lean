/- Part of the proof: Tn2 Snw Rdr. Conditions: as each states. -/
import Derived.Test.YtmbdghclhpboaaaGreatPq33
set_option linter.all false
set_option maxRecDepth 100000
namespace Go.Proofs.YtmbdghclhpboaaaGreat
open Ev
def Uz(t:Tn)(ts:List (Int×Addr))(ns:List PN)(PB:List (Int×bW))(Ms:Nat->List (Int×Int)):List ai:=[tnC t,.bE (mE iK La ts),.res (Cx t.xA ns PB),.res (xB t.yR Ms)]
theorem OM{t:Tn}{ts:List (Int×Addr)}{ns:List PN}{PB:List (Int×bW)}{Ms:Nat->List (Int×Int)}{id:Int}(hi:Fj ns PB)(hn:dy id PB=none) :
  CP [] 139 [.ptr 0 0,iA id] (Uz t ts ns PB Ms) (fun v H'=>v=bA false/\∃G,H'=Uz t ts ns PB Ms++G):=by
 have h0:0<ns.length:=by obtain ⟨nd,h⟩:=hi.root;exact de h
 refine ag aa rfl ?_;repeat' ((conv=>whnf);first|with_reducible apply af<;>intro _|(refine (Q6 (a:=t.xA) (ns:=ns) (B:=PB) (id:=id) h0).use [2] rfl rfl ⟨ko,tU⟩ ?_;rintro _ _ ⟨rfl,rfl⟩;refine ⟨[],?_⟩;rw[hn]))
 all_goals (try conv=>whnf)
 exact ⟨rfl,_,rfl⟩
theorem Sx{t:Tn}{ts:List (Int×Addr)}{ns:List PN}{PB:List (Int×bW)}{Ms:Nat->List (Int×Int)}{r:bW}(hi:Fj ns PB)(hn:dy r.id PB=none)(hf:fits r.x r.y=true)(hB:PB.length<=10000000) :
  CP [] 53 [.ptr 0 0,.agg (lE r)] (Uz t ts ns PB Ms) (fun v H'=>v=aQ/\∃lM zX G,Fj lM (PB++[(r.id,r)])/\H'=Uz t ts lM (PB++[(r.id,r)]) zX++G):=by
 refine ag aa rfl ?_;repeat' ((conv=>whnf);first|with_reducible apply af<;>intro _|refine aM.drawn aa rfl rfl ?_|with_reducible refine And.intro (aN.mk ⟨_,rfl,rfl⟩) ?_|(refine (OM (t:=t) (ts:=ts) (Ms:=Ms) hi hn).use [0,1,2,3] rfl rfl ⟨⟨_,rfl,rfl⟩,⟨_,rfl,rfl⟩,ko,ko,tU⟩ ?_;rintro _ _ ⟨rfl,G,rfl⟩;refine ⟨[],?_⟩)|(refine (X6 (a:=t.xA) (r:=r) hi hB).use [2] rfl rfl ⟨ko,tU⟩ ?_;rintro _ _ (⟨h1,_⟩|⟨_,h1,_⟩|⟨_,_,lM,h1,kU,rfl,rfl⟩);(exfalso;rw[hf] at h1;cases h1);(exfalso;rw[hn] at h1;cases h1);refine ⟨[],?_⟩)|(refine (X2 (a:=t.yR) (Ms:=Ms) (x:=r.x) (y:=r.y)).use [3] rfl rfl ⟨ko,tU⟩ ?_;rintro _ _ ⟨rfl,zX,rfl⟩;refine ⟨[],?_⟩))
 all_goals (try conv=>whnf)
 all_goals exact ⟨rfl,lM,zX,_,kU,rfl⟩
def bG.s(q:bG):List UInt8:=q.tx.data.toList
def eK(q:bG)(tk:List dW):Bool:=q.sound&&(decide ((hU q.s).2.err=0)&&(hU q.s).1.all Rl.ok&&tk.all fun x=>(cw x.l).isSome)
structure YL(q:bG)(tk:List dW)(t:Tn):Prop where
 M:t.M=GM q.ms [(0,⟨0,0,0,65535,0,0⟩)]
 s:∃a0 ad,ad.length=q.ms.length/\t.ts=Mz ((q.ms.map Mem.user).zip ad) [(0,a0)]/\t.tb=[(a0,[])]++ad.zip (tk.map dW.l)
 pt:Fj t.ns t.PB/\t.PB=q.rs.map fun r=>(r.id,r)
 cq:GZ t.T/\t.CB=q.ss.map fun s=>(s.id,s)
 gr:Nd (hU q.s).1 t.ys t.np
 tr:t.es=q.es/\t.past=q.past
 tx:t.text=q.tx
def OU(R:aC)(q:bG)(tk:List dW)(v:AV)(H':List ai):Prop:=
 (eK q tk=true/\v=.tuple [.ptr 2 0,iA 0]/\∃t G,YL q tk t/\H'=[.res R,.cells q.a 28,.cells [jb t.xJ,.map 3,jb t.xA,jb t.zZ,jb t.wX,jb t.yR,jb t.y7,.lit (.string t.text)] OE,.bE (mE iK La t.ts),.res (tP t.xJ t.M),.res (nS t.tb),.res (Cx t.xA t.ns t.PB),.res (HR t.zZ t.T t.CB),.res (BK t.wX t.ys t.np),.res (xB t.yR t.Ms),.res (Ao t.y7 t.es t.past)]++G) \/
 (eK q tk=false/\v=.tuple [.lit (.pointer none),iA 1]/\∃G,H'=.res R::G)
theorem Sa{rv:Value}{rs:List dc}(h:(rv=aD/\rs=[])\/∃A m,rv=.slice (some A) rs.length m):∃A m,rv=.slice A rs.length m:=by
 rcases h with ⟨rfl,rfl⟩|⟨A,m,rfl⟩
 ·exact ⟨none,0,rfl⟩
 ·exact ⟨_,_,rfl⟩
theorem E0{q:bG}(h:q.sound=true):q.nt=q.ms.length:=by
 unfold bG.sound at h;rw[Bool.and_eq_true,decide_eq_true_eq] at h;exact h.1.1
theorem vR:∀{l:List Int} {x:Int},im x l=true->∀y∈l,x<y
 | [],_,_,y,hy=>by simp at hy
 | z::l,x,h,y,hy=>by
   unfold im at h;simp only[Bool.and_eq_true,decide_eq_true_eq] at h;rcases List.mem_cons.1 hy with rfl|hy
   ·omega
   ·have:=vR h.2 y hy;omega
theorem zN:∀{l:List Int} {x:Int},im x l=true->l.Pairwise (·<·)
 | [],_,_=>.nil
 | z::l,x,h=>by
   unfold im at h;simp only[Bool.and_eq_true,decide_eq_true_eq] at h;exact .cons (vR h.2) (zN h.2)
theorem Gu{l:List Int}(h:cP l=true):l.Pairwise (·<·):=by
 cases l with
 | nil=>exact .nil
 | cons x l=>exact .cons (vR h) (zN h)
theorem zd{κ α:Type}[DecidableEq κ]{k:κ}:∀{l:List (κ×α)} {i:Nat},(∀p∈l,p.1≠k)->jr k l i=none
 | [],_,_=>rfl
 | p::l,i,h=>by
   unfold jr;rw[if_neg (Ne.symm (h p (List.mem_cons_self ..)))];exact zd fun q hq=>h q (List.mem_cons_of_mem _ hq)
theorem wI{α:Type}{id:α->Int}{l:List α}(h:cP (l.map id)=true){k:Nat}(hk:k<l.length):dy (id l[k]) ((l.take k).map fun r=>(id r,r))=none:=by
 unfold dy;rw[zd]
 ·rfl
 ·intro p hp e;obtain ⟨r,hr,rfl⟩:=List.mem_map.1 hp;obtain ⟨i,hi,rfl⟩:=List.getElem_of_mem hr;rw[List.length_take] at hi;rw[List.getElem_take] at e;have Tv:=Gu h;rw[List.pairwise_iff_getElem] at Tv;have:=Tv i k (by rw[List.length_map];omega) (by rw[List.length_map];omega) (by omega);simp only[List.getElem_map] at this;simp only[] at e;omega
def DF(R:aC)(q:bG)(t:Tn):List ai:=[.res R,.cells q.a 28,.cells [jb t.xJ,.map 3,jb t.xA,jb t.zZ,jb t.wX,jb t.yR,jb t.y7,.lit (.string t.text)] OE,.bE (mE iK La t.ts),.res (tP t.xJ t.M),.res (nS t.tb),.res (Cx t.xA t.ns t.PB),.res (HR t.zZ t.T t.CB),.res (BK t.wX t.ys t.np),.res (xB t.yR t.Ms),.res (Ao t.y7 t.es t.past)]
structure Im1 where
 k:Nat
 ns:List PN
 PB:List (Int×bW)
 Ms:Nat->List (Int×Int)
structure Im2 where
 k:Nat
 T:QT
 CB:List (Int×df)
structure Tn0(q:bG)(tk:List dW)(t:Tn):Prop where
 M:t.M=GM q.ms [(0,⟨0,0,0,65535,0,0⟩)]
 s:∃a0 ad,ad.length=q.ms.length/\t.ts=Mz ((q.ms.map Mem.user).zip ad) [(0,a0)]/\t.tb=[(a0,[])]++ad.zip (tk.map dW.l)
 ns:t.ns=[PN.leaf ⟨0,0,0⟩]/\t.PB=[]
 cq:GZ t.T/\t.CB=[]
 gr:Nd (hU q.s).1 t.ys t.np
 tr:t.es=[]/\t.past=0
 tx:t.text=q.tx
theorem Q7:Fj [PN.leaf ⟨0,0,0⟩] [] where
 wf:=by
  have hg:∀(i:Nat) (n:PN),(En [PN.leaf ⟨0,0,0⟩])[i]?=some n->n=PN.leaf ⟨0,0,0⟩:=fun i n h=>by
   rcases i with _|i
   ·exact (Option.some.inj h).symm
   ·simp[En] at h
  refine ⟨fun i n h=>?_,fun i n h hs=>?_,fun i n h _ _ _=>?_,fun x h=>?_,.nil⟩
  ·rw[hg i n h];rfl
  ·rw[hg i n h] at hs;cases hs
  ·rw[hg i n h];exact Nat.zero_le _
  ·simp at h
 root:=⟨_,rfl⟩
 len:=by simp
 iN:=Nat.le_refl _
theorem Lz{q:bG}(h:q.sound=true):(∀r∈q.rs,r.bL=true)/\(∀s∈q.ss,s.bL=true)/\cP (q.rs.map (·.id))=true/\cP (q.ss.map (·.id))=true/\0<=q.past/\q.past<=4611686018427387903:=by
 unfold bG.sound bG.aq bG.xH bG.xM at h;simp only[Bool.and_eq_true,decide_eq_true_eq] at h;obtain ⟨⟨_,h1,h2⟩,⟨⟨_,⟨⟨⟨h3,h4⟩,_⟩,_⟩⟩,h5,h6⟩,_⟩:=h;exact ⟨List.all_eq_true.1 h5,List.all_eq_true.1 h6,h3,h4,h1,h2⟩
theorem OK{R:aC}{q:bG}{tk:List dW}(h:q.Rd R)(hk:q.Tk R tk)(h0:q.ms.length<=60000)(h1:q.rs.length<=60000)(h2:q.ss.length<=60000)(h3:q.es.length<=60000):CP [] 19 [.agg q.a] [.res R] (OU R q tk):=by
 refine ag aa rfl ?_;repeat' ((conv=>whnf);first|with_reducible apply af<;>intro _|refine aM.drawn aa rfl rfl ?_|with_reducible refine And.intro (aN.mk ⟨_,rfl,rfl⟩) ?_|(refine (S5 h h0 h1 h2 (by omega)).use [0] rfl rfl ⟨ko,tU⟩ ?_;rintro _ _ ⟨rfl,G,rfl⟩;refine ⟨[],?_⟩)|(refine (Yd (s:=q.s)).use [] rfl rfl trivial ?_;rintro _ _ (⟨_,rs,pl,hq,hb,hv,rfl,hl,G1,G2,G3,G,rfl⟩|⟨f,hq,hf,rfl⟩);obtain ⟨A,m,rfl⟩:=Sa hv;refine ⟨[3,4],?_⟩;rotate_left;refine ⟨[],?_⟩;rotate_left)|(refine (Vn (m:=m) hb hl).use [2,3] rfl rfl ⟨ko,ko,tU⟩ ?_;rintro _ _ (⟨eR,a,ys,np,rfl,hg,rfl⟩|⟨eR,rfl,G,rfl⟩);refine ⟨[2],?_⟩;rotate_left;refine ⟨[],?_⟩;rotate_left)|(refine PI.use [] rfl rfl trivial ?_;rintro _ _ ⟨a2,ys,np,G1,G2,rfl,hi,rfl⟩;refine ⟨[2],?_⟩)|(refine U4.use [] rfl rfl trivial ?_;rintro _ _ ⟨rfl,t,ht,rfl⟩;refine ⟨[0,1,2,3,4,5,6,7,8],?_⟩)|(refine (Ys (t:=t) h hk (hk.nt.symm.trans (E0 (by assumption))) h0).use [14,9,8,10,0] rfl rfl ⟨⟨_,rfl,rfl⟩,⟨_,rfl,rfl⟩,ko,ko,ko,tU⟩ ?_;rintro _ _ ⟨rfl,M,ts,tb,G,yx,rfl⟩;refine ⟨[],?_⟩))
 all_goals (try conv=>whnf)
 ·have IL:q.sound=true:=by assumption
  have lL:(tk.all fun x=>(cw x.l).isSome)=true:=by assumption
  obtain ⟨PT,FJ,Iv,ha4,ha5,ha6⟩:=Lz IL;have himp:eK q tk=true:=by
   unfold eK;rw[IL,hq,lL];simp only[kz.ok,decide_true,List.all_map,Bool.true_and,Bool.and_true];exact eR
  have sX:Tn0 q tk { t with wX:=a,text:=q.tx,M:=M,ts:=ts,tb:=tb,ys:=ys,np:=np }:=by
   obtain ⟨hM,ad,hJ,nP,TA⟩:=yx lL;obtain ⟨a0,h5,h6⟩:=ht.ts;have e1:q.ms.take q.ms.length=q.ms:=List.take_length;have e2:tk.take q.ms.length=tk:=by rw[<-E0 IL,hk.nt];exact List.take_length
   rw[e1] at hM nP;rw[e2] at TA;exact ⟨by rw[<-ht.M];exact hM,⟨a0,ad,hJ,by rw[<-h5];exact nP,by rw[<-h6];exact TA⟩,ht.ns,ht.cq,by rw[hq];exact hg,ht.tr,rfl⟩
  refine aM.sub [0,1,14,9,8,10,6,11,5,12,13] (l:=[(1,.ptr 1 0),(8,.ptr 2 0),(52,.lit (.slice q.oZ q.rs.length q.cr)),(53,iA q.rs.length),(54,iA (0:Nat))]) (H0:=DF R q { t with wX:=a,text:=q.tx,M:=M,ts:=ts,tb:=tb,ys:=ys,np:=np }) ⟨rfl,⟨rr,rr,rr,rr,rr,tU⟩,⟨ko,⟨_,rfl,rfl⟩,⟨_,rfl,rfl⟩,⟨_,rfl,rfl⟩,ko,ko,ko,ko,ko,ko,ko,tU⟩⟩ ?_;generalize ({ t with wX:=a,text:=q.tx,M:=M,ts:=ts,tb:=tb,ys:=ys,np:=np }:Tn)=t0 at sX ⊢;clear yx hg ht hb hq eR hv;refine aV aa rfl (fun s:Im1=>[(1,.ptr 1 0),(8,.ptr 2 0),(52,.lit (.slice q.oZ q.rs.length q.cr)),(53,iA q.rs.length),(54,iA (s.k:Nat))]) (fun s=>DF R q { t0 with ns:=s.ns,PB:=s.PB,Ms:=s.Ms })
   (fun s=>s.k<=q.rs.length/\Fj s.ns s.PB/\s.PB=(q.rs.take s.k).map fun r=>(r.id,r)) (fun s=>q.rs.length - s.k) ⟨0,t0.ns,t0.PB,t0.Ms⟩ ⟨Nat.zero_le _,by rw[sX.ns.1,sX.ns.2];exact Q7,by rw[sX.ns.2];rfl⟩ [0,1,2,3,4,5,6,7,8,9,10] ?_ ?_
  ·exact ⟨rfl,⟨rr,rr,rr,rr,rr,tU⟩,⟨ko,⟨_,rfl,rfl⟩,⟨_,rfl,rfl⟩,⟨_,rfl,rfl⟩,ko,ko,ko,ko,ko,ko,ko,tU⟩⟩
  ·rintro ⟨k,ns,PB,Ms⟩ ⟨gl,Xy,NF⟩;simp only[] at gl Xy NF;by_cases cT:k<q.rs.length
   ·obtain ⟨ad,mM,bu⟩:=h.rs.at cT;simp only[mM,DF,bG.a];conv=>whnf
    refine af (fun _=>?_) (bT cT);have te:fits q.rs[k].x q.rs[k].y=true:=by
     have:=PT _ (List.getElem_mem cT);unfold bW.bL at this;rw[Bool.and_eq_true] at this;exact this.1
    have lA:dy q.rs[k].id PB=none:=by rw[NF];exact wI Iv cT
    have hPl:PB.length<=10000000:=by rw[NF,List.length_map,List.length_take];omega
    repeat' ((conv=>whnf);first|with_reducible apply af<;>intro _|refine aM.drawn aa rfl rfl ?_|with_reducible refine And.intro (aN.mk ⟨_,rfl,rfl⟩) ?_|refine al.bC aa rfl rfl rfl rfl rfl cT ?_|refine al.aR (i:=0) (v:=.agg (lE q.rs[k])) rfl (fun w S hR=>bu w S hR k cT) rfl rfl ?_|(refine (Sx (t:=t0) (ts:=t0.ts) (Ms:=Ms) (r:=q.rs[k]) Xy lA te hPl).use [2,3,6,9] rfl rfl ⟨⟨_,rfl,rfl⟩,⟨_,rfl,rfl⟩,ko,ko,tU⟩ ?_;rintro _ _ ⟨rfl,lM,zX,G,Z2,rfl⟩;refine ⟨[],?_⟩))
    all_goals (try conv=>whnf)
    exact ⟨⟨k+1,lM,PB++[(q.rs[k].id,q.rs[k])],zX⟩,[0,1,2,3,4,5,6,7,8,9,10],⟨⟨cT,Z2,by show _=(q.rs.take (k+1)).map _;rw[bq cT,List.map_append,NF];rfl⟩,by show q.rs.length - (k+1)<q.rs.length - k;omega⟩,rfl,⟨rr,rr,rr,rr,⟨rfl,ax rfl (ak (by omega) (by omega))⟩,tU⟩,⟨ko,⟨_,rfl,rfl⟩,⟨_,rfl,rfl⟩,⟨_,rfl,rfl⟩,ko,ko,ko,ko,ko,ko,ko,tU⟩⟩
   ·obtain rfl:k=q.rs.length:=by omega
    rw[List.take_length] at NF;simp only[DF,bG.a];conv=>whnf
    refine af (cF cT) (fun _=>?_);repeat' ((conv=>whnf);first|with_reducible apply af<;>intro _|refine aM.drawn aa rfl rfl ?_|with_reducible refine And.intro (aN.mk ⟨_,rfl,rfl⟩) ?_ )
    refine aV aa rfl (fun s:Im2=>[(1,.ptr 1 0),(8,.ptr 2 0),(63,.lit (.slice q.os q.ss.length q.cs)),(64,iA q.ss.length),(65,iA (s.k:Nat))]) (fun s=>DF R q { t0 with ns:=ns,PB:=PB,Ms:=Ms,T:=s.T,CB:=s.CB })
     (fun s=>s.k<=q.ss.length/\GZ s.T/\s.CB=(q.ss.take s.k).map fun r=>(r.id,r)) (fun s=>q.ss.length - s.k) ⟨0,t0.T,t0.CB⟩ ⟨Nat.zero_le _,sX.cq.1,by rw[sX.cq.2];rfl⟩ [0,1,2,3,4,5,6,7,8,9,10] ?_ ?_
    ·exact ⟨rfl,⟨rr,rr,rr,rr,rr,tU⟩,⟨ko,⟨_,rfl,rfl⟩,⟨_,rfl,rfl⟩,⟨_,rfl,rfl⟩,ko,ko,ko,ko,ko,ko,ko,tU⟩⟩
    ·rintro ⟨k,T,CB⟩ ⟨gl,hT,PO⟩;simp only[] at gl hT PO;by_cases cT:k<q.ss.length
     ·obtain ⟨ad,mM,bu⟩:=h.ss.at cT;simp only[mM,DF,bG.a];conv=>whnf
      refine af (fun _=>?_) (bT cT);have hrc:o4 q.ss[k].x0 q.ss[k].y0 q.ss[k].x1 q.ss[k].y1=true:=by
       have:=FJ _ (List.getElem_mem cT);unfold df.bL at this;rw[Bool.and_eq_true] at this;exact this.1
      have lA:dy q.ss[k].id CB=none:=by rw[PO];exact wI ha4 cT
      repeat' ((conv=>whnf);first|with_reducible apply af<;>intro _|refine aM.drawn aa rfl rfl ?_|with_reducible refine And.intro (aN.mk ⟨_,rfl,rfl⟩) ?_|refine al.bC aa rfl rfl rfl rfl rfl cT ?_|refine al.aR (i:=0) (v:=.agg (pG q.ss[k])) rfl (fun w S hR=>bu w S hR k cT) rfl rfl ?_|(refine (Wo (a:=t0.zZ) (s:=q.ss[k]) hT hrc lA).use [7] rfl rfl ⟨ko,tU⟩ ?_;rintro _ _ ⟨rfl,T',rfl,gz⟩;refine ⟨[],?_⟩))
      all_goals (try conv=>whnf)
      exact ⟨⟨k+1,T',CB++[(q.ss[k].id,q.ss[k])]⟩,[0,1,2,3,4,5,6,7,8,9,10],⟨⟨cT,gz,by show _=(q.ss.take (k+1)).map _;rw[bq cT,List.map_append,PO];rfl⟩,by show q.ss.length - (k+1)<q.ss.length - k;omega⟩,rfl,⟨rr,rr,rr,rr,⟨rfl,ax rfl (ak (by omega) (by omega))⟩,tU⟩,⟨ko,⟨_,rfl,rfl⟩,⟨_,rfl,rfl⟩,⟨_,rfl,rfl⟩,ko,ko,ko,ko,ko,ko,ko,tU⟩⟩
     ·obtain rfl:k=q.ss.length:=by omega
      rw[List.take_length] at PO;simp only[DF,bG.a];conv=>whnf
      refine af (cF cT) (fun _=>?_);have Aa:rL t0.past q.past=(true,q.past):=by
       rw[sX.tr.2];unfold rL;rw[if_neg (by omega)];simp
      repeat' ((conv=>whnf);first|with_reducible apply af<;>intro _|refine aM.drawn aa rfl rfl ?_|with_reducible refine And.intro (aN.mk ⟨_,rfl,rfl⟩) ?_|(refine (V8 (a:=t0.y7) (es:=t0.es) (past:=t0.past) (n:=q.past) (by rw[sX.tr.2];omega)).use [10] rfl rfl ⟨ko,tU⟩ ?_;rintro _ _ ⟨rfl,rfl⟩;refine ⟨[],?_⟩;rw[Aa]))
      refine aV aa rfl (fun s:Nat×List fS=>[(1,.ptr 1 0),(8,.ptr 2 0),(85,.lit (.slice q.oe q.es.length q.ce)),(86,iA q.es.length),(87,iA (s.1:Nat))]) (fun s=>DF R q { t0 with ns:=ns,PB:=PB,Ms:=Ms,T:=T,CB:=CB,past:=q.past,es:=s.2 })
       (fun s=>s.1<=q.es.length/\s.2=q.es.take s.1) (fun s=>q.es.length - s.1) (0,t0.es) ⟨Nat.zero_le _,sX.tr.1⟩ [0,1,2,3,4,5,6,7,8,9,10] ?_ ?_
      ·exact ⟨rfl,⟨rr,rr,rr,rr,rr,tU⟩,⟨ko,⟨_,rfl,rfl⟩,⟨_,rfl,rfl⟩,⟨_,rfl,rfl⟩,ko,ko,ko,ko,ko,ko,ko,tU⟩⟩
      ·rintro ⟨k,es⟩ ⟨gl,pg⟩;simp only[] at gl pg;by_cases cT:k<q.es.length
       ·obtain ⟨ad,mM,bu⟩:=h.es.at cT;simp only[mM,DF,bG.a];conv=>whnf
        refine af (fun _=>?_) (bT cT);repeat' ((conv=>whnf);first|with_reducible apply af<;>intro _|refine aM.drawn aa rfl rfl ?_|with_reducible refine And.intro (aN.mk ⟨_,rfl,rfl⟩) ?_|refine al.bC aa rfl rfl rfl rfl rfl cT ?_|refine al.aR (i:=0) (v:=.agg (Bt q.es[k])) rfl (fun w S hR=>bu w S hR k cT) rfl rfl ?_|(refine (V7 (a:=t0.y7) (es:=es) (past:=q.past) (e:=q.es[k]) (by rw[pg,List.length_take];omega)).use [10] rfl rfl ⟨ko,tU⟩ ?_;rintro _ _ ⟨rfl,rfl⟩;refine ⟨[],?_⟩))
        all_goals (try conv=>whnf)
        exact ⟨(k+1,es++[q.es[k]]),[0,1,2,3,4,5,6,7,8,9,10],⟨⟨cT,by show _=q.es.take (k+1);rw[bq cT,pg]⟩,by show q.es.length - (k+1)<q.es.length - k;omega⟩,rfl,⟨rr,rr,rr,rr,⟨rfl,ax rfl (ak (by omega) (by omega))⟩,tU⟩,⟨ko,⟨_,rfl,rfl⟩,⟨_,rfl,rfl⟩,⟨_,rfl,rfl⟩,ko,ko,ko,ko,ko,ko,ko,tU⟩⟩
       ·obtain rfl:k=q.es.length:=by omega
        rw[List.take_length] at pg;simp only[DF,bG.a];conv=>whnf
        refine af (cF cT) (fun _=>?_);repeat' ((conv=>whnf);first|with_reducible apply af<;>intro _|refine aM.drawn aa rfl rfl ?_|with_reducible refine And.intro (aN.mk ⟨_,rfl,rfl⟩) ?_ )
        all_goals (try conv=>whnf)
        exact .inl ⟨himp,rfl,{ t0 with ns:=ns,PB:=PB,Ms:=Ms,T:=T,CB:=CB,past:=q.past,es:=es },[],⟨sX.M,sX.s,⟨Xy,NF⟩,⟨hT,PO⟩,sX.gr,⟨pg,rfl⟩,sX.tx⟩,rfl⟩
 ·have lL:(tk.all fun x=>(cw x.l).isSome)=false:=by assumption
  have himp:eK q tk=false:=by
   unfold eK;rw[lL];simp
  exact .inr ⟨himp,rfl,_,rfl⟩
 ·have himp:eK q tk=false:=by
   unfold eK;have e:(rs.map dc.x).all Rl.ok=false:=by rw[List.all_map];exact eR
   rw[hq,e];simp
  exact .inr ⟨himp,rfl,_,rfl⟩
 ·have himp:eK q tk=false:=by
   unfold eK;rw[hq];simp[hf]
  exact .inr ⟨himp,rfl,_,rfl⟩
 ·have hx:((f.err:Int) != 0)=false:=by assumption
  exact absurd (by simpa using hx) hf
 ·have IL:q.sound=false:=by assumption
  have himp:eK q tk=false:=by
   unfold eK;rw[IL];rfl
  exact .inr ⟨himp,rfl,_,rfl⟩
open Ev Go.RowKit Go.Lib
abbrev da:TypeId:=5
abbrev LD:TypeId:=31
abbrev tWr:TypeId:=64
theorem ue:iO ev LD da 1:=⟨⟨_,rfl,rfl⟩,_,_,rfl,rfl,rfl,rfl,by decide⟩
theorem LB{w:World}{v:Value}{l:List UInt8}{tt:TypeId}{s:List UInt8}{v':Value}{w':World}(mq:Own cB 1 da w 0 v l)(Zq:l.length+s.length<=1000000000000)(hr:(Builtin.append_ #[LD,9] tt #[v,dw s]).run Tryz.prog w=.ok v' w')(hn:v'=.slice none 0 0↔v=.slice none 0 0/\s.length=0) :
  ∀b,v'.ownBlock=some b->v.ownBlock=some b\/w.heap.size<=b:=by
 obtain ⟨i,z,hi,hz,jD,sY,sk⟩:=wK.inf;have Qu:z=.int .u8 0:=by
  have:(Tryz.prog.info? 5).map (·.zero)=some (some (.int .u8 0)):=by kernel_rfl
  rw[hi,Option.map_some,Option.some.injEq,hz,Option.some.injEq] at this;exact this
 rw[Qu] at hz;have vD:(⟨s.toArray⟩:ByteArray).size=s.length:=qF s;rcases mq.2 with ⟨rfl,h0⟩|⟨g,cap,cur,rfl,hb,hg,h1,h2,h3,h4⟩
 ·by_cases IK:s.length=0
  ·rw[hn.2 ⟨rfl,IK⟩];intro b hb;simp[Value.ownBlock] at hb
  ·have h5:=run_append_nil_string (P:=Tryz.prog) w LD 9 tt da i (.int .u8 0) Tryz.underlying31 Tryz.underlying9 hi hz ⟨s.toArray⟩ (by rw[vD];omega) (by rw[vD];omega) (by rw[vD,sY];omega);have h6:=hr.symm.trans h5;injection h6 with h6 h7;rw[h6];intro b hb;simp only[Value.ownBlock,Option.some.injEq] at hb;exact .inr (by omega)
 ·by_cases jN:l.length+s.length<=cap
  ·have h5:=run_append_room_string (P:=Tryz.prog) w LD 9 tt da i Tryz.underlying31 Tryz.underlying9 hi jD g l.length cap cur hg ⟨s.toArray⟩ (by rw[vD];exact jN) (by rw[vD];omega);have h6:=hr.symm.trans h5;injection h6 with h6 h7;rw[h6];intro b hb;exact .inl hb
  ·have h5:=run_append_grow_string (P:=Tryz.prog) w LD 9 tt da i (.int .u8 0) Tryz.underlying31 Tryz.underlying9 hi hz ⟨g,0,none⟩ l.length cap (l.flatMap cB) (by rw[eC fE,jD]) (World.ownsRow.cells mq (g:=g) rfl) ⟨s.toArray⟩ (by rw[vD];omega) (by rw[vD];omega) (by rw[vD,sY];exact growslice_fits (by omega) (by omega));have h6:=hr.symm.trans h5;injection h6 with h6 h7;rw[h6];intro b hb;simp only[Value.ownBlock,Option.some.injEq] at hb;exact .inr (by omega)
theorem eH.SJ{S:List Nat}{t:aE}{H:List ai}{K:AV->List ai->Prop}{c:Call}{s x:Operand}{v:Value}{l tx:List UInt8}{i:Nat}{R R1:aC}{R':Value->aC}
  (hc:c={ callee:=.builtin .append,args:=#[s,x],argTypes:=#[LD,9] }) (hs:aL t s=some (.lit v)) (hx:aL t x=some (.lit (dw tx))) (hi:H[i]?=some (.res R))
  (lK:∀w S,R.at_ w S->bD [aA cB 1 da v l,R1] w S) (uQ:∀v' w S,bD [aA cB 1 da v' (l++tx),R1] w S->(R' v').at_ w S) (hlen:l.length+tx.length<=1000000000000)
  (kk:∀v',cS v' (l++tx)->mz H i (.res (R' v')) fun H'=>K (.lit v') H'):eH Tryz.prog S t H (.call c) K:=by
 refine eH.Vl hc hs hx hi lK uQ (fun F γ w tt cK mq=>?_) kk;obtain ⟨i,z,hi,hz,jD,sY,sk⟩:=wK.inf;have Qu:z=.int .u8 0:=by
  have:(Tryz.prog.info? 5).map (·.zero)=some (some (.int .u8 0)):=by kernel_rfl
  rw[hi,Option.map_some,Option.some.injEq,hz,Option.some.injEq] at this;exact this
 rw[Qu] at hz;obtain ⟨v',w',hr,h2,h3,h4⟩:=run_append_own_string (P:=Tryz.prog) w 0 LD 9 tt da i Tryz.underlying31 Tryz.underlying9 hi hz jD sY v l.length _ mq ⟨tx.toArray⟩ (by rw[qF];unfold maxLen;omega) (by rw[qF];omega) (Nat.zero_le _);rw[GH,qF] at h2;refine ⟨v',w',hr,?_,h3,LB mq hlen hr (by rw[qF] at h4;exact h4)⟩;unfold Own;rw[List.flatMap_append,List.length_append];exact h2
theorem aal{k n:Nat}{H:List ai}{K:AV->List ai->Prop}(h1:1<=k)(h2:k<=8)(hn:n<18446744073709551616)(hk:n<256 ^ k)(fy:Nat.blt H.length aY=true)
  (kk:∀a m R,(∀w S,R.at_ w S->∃b off,some a=some ⟨b,off,none⟩/\ir w b off ((cG k n).flatMap cB))->K (.tuple [.lit (.slice (some a) (cG k n).length m),iA 0]) (H++[.res R])):CP [] 165 [uA n,iA k] H K:=by
 have hl:(cG k n).length=k:=bR k n;have aP:cG k n≠[]:=fun e=>by rw[e] at hl;simp at hl;omega
 refine aj.I5 aa rfl (ι:=Addr×Nat) (fun i=>.tuple [.lit (.slice (some i.1) (cG k n).length i.2),iA 0]) (fun i base w'=>Own cB 1 da w' base (.slice (some i.1) (cG k n).length i.2) (cG k n)) rfl fy ?_ ?_
 ·intro w;refine (oq n k w h1 h2 hn hk).mono ?_;rintro e w' ⟨v,rfl,ho,hb⟩;obtain ⟨A,cap,rfl⟩:=ho.form;obtain ⟨b,off,rfl,_,_⟩:=jj ho aP;exact ⟨(_,cap),_,rfl,rfl,ho,hb⟩
 ·rintro ⟨a,m⟩ base w' _ ho;refine kk a m _ fun w S hw=>?_;obtain ⟨b,off,h3,_,h4⟩:=jj (EZ ho hw) aP;exact ⟨b,off,h3,h4⟩
theorem uk:∀(a:UInt8),∀u∈cB a,u.oneCell'=true:=fun a u hu=>Ft.one a u hu
theorem mZ{v:Value}{l:List UInt8}(w:World)(S:Nat->Prop)(h:(aA cB 1 da v l).at_ w S):bD [aA cB 1 da v l,aB] w S:=
 ⟨S,fun _=>False,h,⟨fun _=>False,fun _=>False,fun _ h=>h,fun _ h=>h,fun _ h _=>h,fun b=>by simp⟩,fun _ _ h=>h,fun b=>by simp⟩
theorem pd{v:Value}{l:List UInt8}(w:World)(S:Nat->Prop)(h:bD [aA cB 1 da v l,aB] w S):(aA cB 1 da v l).at_ w S:=by
 obtain ⟨S1,S2,h1,⟨T1,T2,k1,k2,_,sg⟩,_,hS⟩:=h;refine ⟨h1.1,fun b=>?_⟩;rw[hS b,sg b];have e1:=h1.2 b;have e2:=k1 b;have e3:=k2 b;simp only[e2,e3,or_false];exact e1
def kl(v:Value)(l:List UInt8):List ai:=[.cells [.lit v] tWr,.res (aA cB 1 da v l)]
def gS(l:List UInt8)(v:AV)(H':List ai):Prop:=v=aQ/\∃v' d G,d=l/\cS v' d/\H'=kl v' d++G
theorem mc{α:Type}{v:Value}{l:List α}(h:cS v l)(aP:l≠[]):∃A n,v=.slice (some A) l.length n:=by
 rcases h with ⟨_,h⟩|h
 ·exact absurd h aP
 ·exact h
theorem wC{k n:Nat}{v:Value}{l:List UInt8}(hv:cS v l)(h1:1<=k)(h2:k<=8)(hn:n<18446744073709551616)(hk:n<256 ^ k)(hl:l.length<=1000000000):CP [] 88 [.ptr 0 0,iA k,uA n] (kl v l) (gS (l++cG k n)):=by
 have BN:(cG k n).length=k:=bR k n;have aP:cG k n≠[]:=fun e=>by rw[e] at BN;simp at BN;omega
 rcases hv with ⟨rfl,rfl⟩|⟨A,c,rfl⟩;all_goals
  refine ag aa rfl ?_
  repeat' ((conv=>whnf);first|with_reducible apply af<;>intro _|(refine aal h1 h2 hn hk rfl fun a m R hR=>?_)|(refine al.om (eH.V6 aa ue fE (by decide) uk (i:=1) (j:=2) (l2:=cG k n) (R1:=aB) (R':=fun v'=>aA cB 1 da v' (_++cG k n)) rfl rfl rfl aP rfl rfl hR mZ (fun v'=>pd) (by first|omega|(simp only[List.length_nil];omega)) fun v' eJ=>?_);obtain ⟨A',n',rfl⟩:=mc eJ (by simp[aP])))
  all_goals (try conv=>whnf)
  exact ⟨rfl,_,_,_,rfl,eJ,rfl⟩
abbrev bs(k:Nat)(x:Int):List UInt8:=cG k x.toNat
def bw(k:Nat)(x:Int):Prop:=0<=x/\x<256 ^ k/\x<9223372036854775808
theorem bw.u64{k:Nat}{x:Int}(h:bw k x):IntKind.u64.wrap x=((x.toNat:Nat):Int):=by
 have h1:=h.1;have h2:=h.2.2;rw[Int.toNat_of_nonneg h1];rw[IntKind.wrap_u64];omega
theorem bw.lt{k:Nat}{x:Int}(h:bw k x):x.toNat<256 ^ k:=by
 have h1:=h.1;have h2:=h.2.1;have:((x.toNat:Nat):Int)<((256 ^ k:Nat):Int):=by rw[Int.toNat_of_nonneg h1];norm_cast at h2 ⊢
 exact Int.ofNat_lt.1 this
theorem fU{α β:Type}{f:α->List β}{k:Nat}(hk:∀a,(f a).length=k):∀l:List α,(l.flatMap f).length=l.length * k
 | []=>by simp
 | a::l=>by rw[List.flatMap_cons,List.length_append,hk,fU hk l,List.length_cons,Nat.add_mul];omega
structure Nh where
 i:Nat
 v:Value
theorem kx{k:Nat}{xs:List Int}{v:Value}{l:List UInt8}(hv:cS v l)(h1:1<=k)(h2:k<=8)(hx:∀x∈xs,bw k x)(hn:xs.length<=1000)(hl:l.length<=900000000):CP [] 80 [.ptr 0 0,iA k,.slice 2 0 xs.length (.k xs.length)] (kl v l++[.row (xs.map iK) 3]) (fun u H'=>u=aQ/\∃v' d G,d=l++xs.flatMap (bs k)/\cS v' d/\H'=kl v' d++.row (xs.map iK) 3::G):=by
 refine ag aa rfl ?_;conv=>whnf
 refine aV aa rfl (fun s:Nh=>[(0,.ptr 0 0),(1,iA k),(8,.slice 2 0 xs.length (.k xs.length)),(9,iA xs.length),(10,iA (s.i:Nat))]) (fun s=>kl s.v (l++(xs.take s.i).flatMap (bs k))++[.row (xs.map iK) 3])
  (fun s=>s.i<=xs.length/\cS s.v (l++(xs.take s.i).flatMap (bs k))) (fun s=>xs.length - s.i) ⟨0,v⟩ ⟨Nat.zero_le _,by simpa using hv⟩ [0,1,2] ?_ ?_
 ·exact ⟨rfl,⟨rr,rr,rr,rr,rr,tU⟩,⟨⟨_,rfl,rfl⟩,⟨_,rfl,by simp only[List.take_zero,List.flatMap_nil,List.append_nil];exact fun _ _ h=>h⟩,⟨_,rfl,rfl⟩,tU⟩⟩
 ·rintro ⟨i,v⟩ ⟨g9,hv⟩;simp only[] at g9 hv;by_cases hi:i<xs.length
  ·have KT:=hx _ (List.getElem_mem hi);have hw:=KT.u64;have hlen:(l++(xs.take i).flatMap (bs k)).length<=1000000000:=by
    have:((xs.take i).flatMap (bs k)).length=(xs.take i).length * k:=fU (fun x:Int=>bR k x.toNat) _;rw[List.length_append,this,List.length_take];have:min i xs.length * k<=1000 * 8:=Nat.mul_le_mul (by omega) h2;omega
   conv=>whnf
   refine af (fun _=>?_) (bT hi);repeat' ((conv=>whnf);first|with_reducible apply af<;>intro _|refine aO.of (k:=i) rfl hi ?_|refine dL.val hi ?_|(refine (wC (k:=k) (n:=xs[i].toNat) hv h1 h2 (by have:=KT.2.2;omega) KT.lt hlen).use [0,1] (by rw[hw];rfl) rfl ⟨⟨_,rfl,rfl⟩,ko,tU⟩ ?_;rintro _ _ ⟨rfl,v',d,G,rfl,eJ,rfl⟩;refine ⟨[],?_⟩))
   all_goals (try conv=>whnf)
   have e:l++(xs.take (i+1)).flatMap (bs k)=l++(xs.take i).flatMap (bs k)++cG k xs[i].toNat:=by
    rw[bq hi,List.flatMap_append,List.append_assoc];simp
   refine ⟨⟨i+1,v'⟩,[0,1,2],⟨⟨hi,by show cS v' (l++(xs.take (i+1)).flatMap (bs k));rw[e];exact eJ⟩,by show xs.length - (i+1)<xs.length - i;omega⟩,rfl,⟨rr,rr,rr,rr,⟨rfl,ax rfl (ak (by dsimp only;omega) (by dsimp only;omega))⟩,tU⟩,⟨⟨_,rfl,rfl⟩,⟨_,rfl,?_⟩,⟨_,rfl,rfl⟩,tU⟩⟩;show ∀w S,(aA cB 1 da v' _).at_ w S->(aA cB 1 da v' (l++(xs.take (i+1)).flatMap (bs k))).at_ w S
   rw[e];exact fun _ _ h=>h
  ·obtain rfl:i=xs.length:=by omega
   rw[List.take_length] at hv;conv=>whnf
   refine af (cF hi) (fun _=>?_);repeat' ((conv=>whnf);with_reducible apply af<;>intro _)
   all_goals (try conv=>whnf)
   refine ⟨rfl,v,_,[],rfl,hv,?_⟩;show kl v (l++(xs.take xs.length).flatMap (bs k))++[ai.row (xs.map iK) 3]=_
   rw[List.take_length]
abbrev UY:TypeId:=101
structure zW(R:aC)(b off c:Nat)(l:List UInt8):Prop where
 cap:l.length<=c
 lay:∀w S,R.at_ w S->ir w b off (l.flatMap cB)
theorem zW.drop{R:aC}{b off c n:Nat}{l:List UInt8}(h:zW R b off c l)(hn:n<=l.length):zW R b (off+n) (c - n) (l.drop n):=
 ⟨by rw[List.length_drop];have:=h.cap;omega,fun w S hw=>by
  have h1:=(h.lay w S hw).drop (n * 1);rw[vq fE,Nat.mul_one] at h1;exact h1⟩
theorem zW.take{R:aC}{b off c n:Nat}{l:List UInt8}(h:zW R b off c l)(hn:n<=l.length):zW R b off n (l.take n):=
 ⟨by rw[List.length_take];omega,fun w S hw=>by
  have h1:=(h.lay w S hw).take (n * 1);rw[BF fE] at h1;exact h1⟩
structure aH where
 A:Option Addr
 c:Nat
 l:List UInt8
 bad:Bool
structure aH.Ok(R:aC)(s:aH):Prop where
 nil:s.A=none->s.l=[]/\s.c=0
 KX:∀a,s.A=some a->∃b off,a=⟨b,off,none⟩/\zW R b off s.c s.l
def c9(s:aH):ai:=.cells [.lit (.slice s.A s.l.length s.c),bA s.bad] UY
def aH.take(n:Nat)(s:aH):aH:=if n<=s.l.length then ⟨oN s.A s.c n 1,s.c - n,s.l.drop n,s.bad⟩ else ⟨none,0,[],true⟩
def wz(n:Nat)(s:aH):Value:=if n<=s.l.length then .slice s.A n n else .slice none 0 0
theorem Nn{R:aC}{b off c:Nat}:zW R b off c []:=⟨Nat.zero_le _,fun w S hw j u hj=>by simp at hj⟩
theorem aH.Ok.take{R:aC}{s:aH}(h:s.Ok R)(n:Nat):(s.take n).Ok R:=by
 unfold aH.take;split
 ·rename_i hn;cases hA:s.A with
  | none=>
    obtain ⟨h1,h2⟩:=h.nil hA;refine ⟨fun _=>⟨by rw[h1,List.drop_nil],by rw[h2,Nat.zero_sub]⟩,fun a ha=>?_⟩;simp only[oN,Option.map_none,ite_self] at ha;cases ha
  | some a=>
    obtain ⟨b,off,rfl,h1⟩:=h.KX a hA;have gA:=h1.cap;by_cases hc:s.c=n
    ·have hd:s.l.drop n=[]:=List.drop_of_length_le (by omega);have e:oN (some ⟨b,off,none⟩) s.c n 1=some ⟨b,off,none⟩:=by unfold oN;rw[if_pos hc]
     rw[e,hd];refine ⟨fun h=>by (simp only[] at h;cases h),fun a ha=>?_⟩;simp only[Option.some.injEq] at ha;exact ⟨b,off,ha.symm,Nn⟩
    ·have e:oN (some ⟨b,off,none⟩) s.c n 1=some ⟨b,off+n,none⟩:=by
      unfold oN;rw[if_neg hc,Nat.mul_one,Option.map_some,Addr.add_mid]
     rw[e];refine ⟨fun h=>by (simp only[] at h;cases h),fun a ha=>?_⟩;simp only[Option.some.injEq] at ha;exact ⟨b,off+n,ha.symm,h1.drop hn⟩
 ·exact ⟨fun _=>⟨rfl,rfl⟩,fun a ha=>by simp only[] at ha;cases ha⟩
theorem R5{R:aC}{s:aH}(h:s.Ok R)(n:Nat):CP [] 109 [.ptr 0 0,iA n] [c9 s] (fun v H'=>v=.lit (wz n s)/\∃G,H'=c9 (s.take n)::G):=by
 obtain ⟨A,c,l,bad⟩:=s;have nV:=h.nil;have Vu:=h.KX;simp only[] at nV Vu;by_cases hn:n<=l.length
 ·have e1:wz n ⟨A,c,l,bad⟩=.slice A n n:=if_pos hn;have e2:aH.take n ⟨A,c,l,bad⟩=⟨oN A c n 1,c - n,l.drop n,bad⟩:=if_pos hn;rw[e1,e2];show CP [] _ _ [.cells [.lit (.slice A l.length c),bA bad] UY] _
  cases A with
  | none=>
    obtain ⟨rfl,rfl⟩:=nV rfl;obtain rfl:n=0:=by simpa using hn
    refine ag aa rfl ?_;repeat' ((conv=>whnf);first|with_reducible apply af<;>intro _|refine al.ev ⟨_,rfl,?_⟩)
    all_goals (try conv=>whnf)
    exact ⟨rfl,[],rfl⟩
  | some a=>
    obtain ⟨b,off,rfl,h1⟩:=Vu a rfl;refine ag aa rfl ?_;repeat' ((conv=>whnf);first|with_reducible apply af<;>intro _|refine al.aaz aa rfl rfl rfl rfl rfl rfl (Nat.le_trans hn h1.cap) ?_|refine al.VP aa rfl rfl rfl rfl rfl hn ?_)
    all_goals (try conv=>whnf)
    ·rename_i hx;have:=dT1 hx;omega
    ·refine ⟨rfl,[],?_⟩;show [ai.cells [AV.lit (Value.slice (oN (some ⟨b,off,none⟩) c n 1) (l.length - n) (c - n)),bA bad] UY]=_
     unfold c9;rw[List.length_drop]
 ·have e1:wz n ⟨A,c,l,bad⟩=.slice none 0 0:=if_neg hn;have e2:aH.take n ⟨A,c,l,bad⟩=⟨none,0,[],true⟩:=if_neg hn;rw[e1,e2];show CP [] _ _ [.cells [.lit (.slice A l.length c),bA bad] UY] _
  refine ag aa rfl ?_;repeat' ((conv=>whnf);first|with_reducible apply af<;>intro _|(exfalso;rename_i hx;have:=dF1 hx;omega))
  all_goals (try conv=>whnf)
  exact ⟨rfl,[],rfl⟩
theorem aak{R:aC}{b off n:Nat}{l:List UInt8}{S:List Nat}{H:List ai}{K:AV->List ai->Prop}(i:Nat)(hi:H[i]?=some (.res R))(hl:l.length=n)(h:zW R b off n l)(h0:0<n)(h8:n<=8)(k:K (.tuple [uA (jE l:Nat),iA 0]) H):CP S 271 [.lit (.slice (some ⟨b,off,none⟩) n n)] H K:=by
 subst hl;refine aj.K9 aa rfl i hi rfl (x:=.tuple #[.int .u64 (jE l:Nat),.int .i64 0]) (fun w T hw=>?_) k;have mo:=h.lay w T hw;have hb:b<w.heap.size:=TI mo (fun e=>by
  have:=congrArg List.length e;rw[eC fE] at this;simp only[List.length_nil] at this;omega)
 refine (S7 l (.slice (some ⟨b,off,none⟩) l.length l.length) w w.heap.size ⟨_,_,rfl,Nat.le_refl _,by unfold maxLen;omega,fun _=>⟨b,off,rfl,hb,mo⟩⟩ h8 h0).mono ?_;rintro e w' ⟨rfl,rfl⟩;exact ⟨rfl,Go.RowKit.Below.refl _ _⟩
theorem X1{S:List Nat}{H:List ai}{K:AV->List ai->Prop}(k:K (.tuple [uA 0,iA 1]) H):CP S 271 [.lit aD] H K:=by
 refine aj.pure ?_ (fun _=>rfl) (fun _=>rfl) k;refine ag aa rfl ?_;repeat' ((conv=>whnf);with_reducible apply af<;>intro _)
 all_goals (try conv=>whnf)
 all_goals rfl
def aH.gB(k:Nat)(s:aH):Nat×aH:=(if k<=s.l.length then jE (s.l.take k) else 0,s.take k)
def aH.num(k:Nat)(s:aH):Nat×aH:=if 4611686018427387903<(s.gB k).1 then (0,{ (s.gB k).2 with bad:=true }) else s.gB k
theorem aH.lb(k:Nat)(s:aH):(s.num k).1<=4611686018427387903:=by
 unfold aH.num;split
 ·exact Nat.zero_le _
 ·omega
theorem aH.Ok.num{R:aC}{s:aH}(h:s.Ok R)(k:Nat):(s.num k).2.Ok R:=by
 unfold aH.num;split
 ·exact ⟨(h.take k).nil,(h.take k).KX⟩
 ·exact h.take k
theorem RB{R:aC}{s:aH}{k:Nat}(h:s.Ok R)(h1:1<=k)(h8:k<=8):CP [] 183 [.ptr 0 0,iA k] [c9 s,.res R] (fun v H'=>v=uA ((s.gB k).1:Nat)/\∃G,H'=c9 (s.gB k).2::.res R::G):=by
 have ht:=R5 h k;show CP [] _ _ _ (fun v H'=>v=uA ((s.gB k).1:Nat)/\∃G,H'=c9 (s.take k)::.res R::G)
 obtain ⟨s',gp⟩:∃s',s'=s.take k:=⟨_,rfl⟩;rw[<-gp] at ht ⊢;by_cases hn:k<=s.l.length
 ·have e1:wz k s=.slice s.A k k:=if_pos hn;have e2:(s.gB k).1=jE (s.l.take k):=if_pos hn;have hA:s.A≠none:=fun e=>by
   have:=(h.nil e).1;rw[this] at hn;simp only[List.length_nil] at hn;omega
  obtain ⟨a,ha⟩:=Option.ne_none_iff_exists'.1 hA;obtain ⟨b,off,rfl,hb⟩:=h.KX a ha;have hl:(s.l.take k).length=k:=by rw[List.length_take];omega
  rw[e1,ha] at ht;rw[e2];refine ag aa rfl ?_;repeat' ((conv=>whnf);first|with_reducible apply af<;>intro _|(refine ht.use [0] rfl rfl ⟨⟨_,rfl,rfl⟩,tU⟩ ?_;rintro _ _ ⟨rfl,G,rfl⟩;refine ⟨[],?_⟩)|refine aak 1 rfl hl (hb.take hn) (by omega) h8 ?_)
  all_goals (try conv=>whnf)
  exact ⟨rfl,_,rfl⟩
 ·have e1:wz k s=.slice none 0 0:=if_neg hn;have e2:(s.gB k).1=0:=if_neg hn;rw[e1] at ht;rw[e2];refine ag aa rfl ?_;repeat' ((conv=>whnf);first|with_reducible apply af<;>intro _|(refine ht.use [0] rfl rfl ⟨⟨_,rfl,rfl⟩,tU⟩ ?_;rintro _ _ ⟨rfl,G,rfl⟩;refine ⟨[],?_⟩)|refine X1 ?_)
  all_goals (try conv=>whnf)
  exact ⟨rfl,_,rfl⟩
theorem Cd{s:aH}{k:Nat}(h8:k<=8):(s.gB k).1<18446744073709551616:=by
 unfold aH.gB;simp only[];split
 ·have h:=yg _ (s.l.take k) rfl;have h2:256 ^ (s.l.take k).length<=256 ^ 8:=Nat.pow_le_pow_right (by omega) (by rw[List.length_take];omega);have h3:256 ^ 8=18446744073709551616:=by decide
  omega
 ·omega
theorem Jo{R:aC}{s:aH}{k:Nat}(h:s.Ok R)(h1:1<=k)(h8:k<=8):CP [] 103 [.ptr 0 0,iA k] [c9 s,.res R] (fun v H'=>v=iA ((s.num k).1:Nat)/\∃G,H'=c9 (s.num k).2::.res R::G):=by
 have hl:=RB h h1 h8;obtain ⟨p,hp⟩:∃p,p=s.gB k:=⟨_,rfl⟩;have e1:s.num k=if 4611686018427387903<p.1 then (0,{ p.2 with bad:=true }) else p:=by rw[hp];rfl
 rw[e1];rw[<-hp] at hl;clear e1 hp;obtain ⟨m,s'⟩:=p;simp only[] at hl ⊢;refine ag aa rfl ?_;repeat' ((conv=>whnf);first|with_reducible apply af<;>intro _|(refine hl.use [0,1] rfl rfl ⟨⟨_,rfl,rfl⟩,ko,tU⟩ ?_;rintro _ _ ⟨rfl,G,rfl⟩;refine ⟨[],?_⟩))
 all_goals (try conv=>whnf)
 ·rename_i hx;have:=dT1 hx;rw[if_pos (by omega)];exact ⟨rfl,_,rfl⟩
 ·rename_i hx;have:=dF1 hx;rw[if_neg (by omega)];have e:IntKind.i64.wrap (m:Int)=(m:Int):=ak (by omega) (by omega);rw[e];exact ⟨rfl,_,rfl⟩
theorem rG{l:List AV}{j:Nat}{v:AV}(h:j<l.length):setFrom l j [v]=l.set j v:=by
 unfold setFrom;rw[List.set_eq_take_append_cons_drop,if_pos h,List.append_assoc];rfl
theorem PA{α:Type}:∀{l:List α} {K:List α->Prop},K l->fl l K
 | [],_,h=>h
 | a::l,K,h=>PA (l:=l) (K:=fun l'=>K (a::l')) h
theorem S4{l:List AV}{j:Nat}{v:AV}{K:List AV->Prop}(hv:v.cells=[v])(h:j<l.length)(k:K (l.set j v)):fl (setFrom l j v.cells) K:=by
 refine PA ?_;rw[hv,rG h];exact k
theorem yT(g:Nat->Nat):∀l:List AV,AV.eN g l=l.map (AV.cI g)
 | []=>rfl
 | a::l=>by rw[AV.eN,yT g l];rfl
theorem QS{l l':List AV}{T:TypeId}{g:Nat->Nat}(e:l=l')(h:∀g,l'.map (AV.cI g)=l'):pL (.cells l T) ((ai.cells l' T).cI g):=by
 subst e;show vw (.cells l T)=vw (.cells (AV.eN g l) T)
 rw[yT,h]
def aH.lD(k:Nat):Nat->aH->List Nat×aH
 | 0,s=>([],s)
 | i+1,s=>((s.lD k i).1++[((s.lD k i).2.num k).1],((s.lD k i).2.num k).2)
theorem aH.Es(k:Nat)(s:aH):∀i,(s.lD k i).1.length=i
 | 0=>rfl
 | i+1=>by rw[aH.lD];simp[aH.Es k s i]
theorem aH.Ok.lD{R:aC}{s:aH}(h:s.Ok R)(k:Nat):∀i,(s.lD k i).2.Ok R
 | 0=>h
 | i+1=>(aH.Ok.lD h k i).num k
def mB(cs:List AV):List Nat->List Nat->List AV
 | i::is,x::xs=>mB (cs.set i (iA (x:Nat))) is xs
 | _,_=>cs
theorem ER:∀(is xs:List Nat) (cs:List AV),(mB cs is xs).length=cs.length
 | [],_,_=>by unfold mB;rfl
 | _::_,[],_=>rfl
 | i::is,x::xs,cs=>by rw[mB,ER is xs,List.length_set]
theorem CV:∀(is xs:List Nat) (cs:List AV) (x:Nat) (h:xs.length<is.length),mB cs is (xs++[x])=(mB cs is xs).set is[xs.length] (iA (x:Nat))
 | [],_,_,_,h=>by simp at h
 | i::is,[],cs,x,_=>by cases is<;>rfl
 | i::is,y::xs,cs,x,h=>by
   rw[List.cons_append,mB,mB,CV is xs _ x (by simpa using h)];rfl
theorem yY{cs:List AV}{is:List Nat}:∀(is xs:List Nat) (cs:List AV) (_:∀g,cs.map (AV.cI g)=cs) (g:Nat->Nat),(mB cs is xs).map (AV.cI g)=mB cs is xs
 | [],_,cs,h,g=>by unfold mB;exact h g
 | _::_,[],cs,h,g=>h g
 | i::is,x::xs,cs,h,g=>by
   rw[mB];refine yY (cs:=cs) (is:=is) is xs _ (fun g=>?_) g;rw[List.map_set,h g];rfl
theorem QU{is:List Nat}{P:TypeId}:pL (.cells (is.map (AV.ptr 2)) P) ((ai.cells (is.map (AV.ptr 2)) P).cI (eB [0,1,2,3])):=by
 show vw (.cells (is.map (AV.ptr 2)) P)=vw (.cells (AV.eN (eB [0,1,2,3]) (is.map (AV.ptr 2))) P)
 rw[yT,List.map_map];rfl
theorem Gs{R:aC}{s:aH}{k:Nat}{is:List Nat}{cs:List AV}{T P:TypeId}(h:s.Ok R)(h1:1<=k)(h8:k<=8)(hm:is.length<=1000)(hj:∀j∈is,j<cs.length)(hc:∀g,cs.map (AV.cI g)=cs):CP [] 102 [.ptr 0 0,iA k,.slice 3 0 is.length (.k is.length)] [c9 s,.res R,.cells cs T,.cells (is.map (AV.ptr 2)) P] (fun u H'=>u=aQ/\∃G,H'=c9 (s.lD k is.length).2::.res R::.cells (mB cs is (s.lD k is.length).1) T::.cells (is.map (AV.ptr 2)) P::G):=by
 refine ag aa rfl ?_;conv=>whnf
 refine aV aa rfl (fun i:Nat=>[(0,.ptr 0 0),(1,iA k),(8,.slice 3 0 is.length (.k is.length)),(9,iA is.length),(10,iA (i:Nat))]) (fun i=>[c9 (s.lD k i).2,.res R,.cells (mB cs is (s.lD k i).1) T,.cells (is.map (AV.ptr 2)) P])
  (fun i=>i<=is.length) (fun i=>is.length - i) 0 (Nat.zero_le _) [0,1,2,3] ?_ ?_
 ·exact ⟨rfl,⟨rr,rr,rr,rr,rr,tU⟩,⟨⟨_,rfl,rfl⟩,ko,⟨_,rfl,QS (by cases is<;>rfl) (fun g=>by (show (mB cs is []).map _=mB cs is [];exact yY (cs:=cs) (is:=is) _ _ _ hc g))⟩,⟨_,rfl,QU⟩,tU⟩⟩
 ·intro i g9;have hlen:(s.lD k i).1.length=i:=aH.Es k s i;have eR:=aH.Ok.lD h k i;obtain ⟨p,hp⟩:∃p,p=s.lD k i:=⟨_,rfl⟩;by_cases hi:i<is.length
  ·have dz:(is.map (AV.ptr 2))[0+i * 1]?=some (.ptr 2 is[i]):=by simp[hi]
   have P7:is[i]<(mB cs is p.1).length:=by rw[ER];exact hj _ (List.getElem_mem hi)
   have rW:Nat.ble (is[i]+1) (mB cs is p.1).length=true:=Nat.ble_eq_true_of_le P7;have mN:s.lD k (i+1)=(p.1++[(p.2.num k).1],(p.2.num k).2):=by rw[hp];rfl
   rw[<-hp] at hlen eR ⊢;have BV:=Jo eR h1 h8;clear hp;obtain ⟨xs,s1⟩:=p;simp only[] at hlen eR P7 rW mN BV ⊢;obtain ⟨q,hq⟩:∃q,q=s1.num k:=⟨_,rfl⟩;rw[<-hq] at BV mN;clear hq;obtain ⟨x,s2⟩:=q;simp only[] at BV mN;conv=>whnf
   refine af (fun _=>?_) (bT hi);repeat' ((conv=>whnf);first|with_reducible apply af<;>intro _|refine aO.of (k:=i) rfl hi ?_|rw[dz]|(refine BV.use [0,1] rfl rfl ⟨⟨_,rfl,rfl⟩,ko,tU⟩ ?_;rintro _ _ ⟨rfl,G,rfl⟩;refine ⟨[],?_⟩)|refine S4 rfl P7 ?_|rw[rW])
   all_goals (try conv=>whnf)
   refine ⟨i+1,[0,1,2,3],⟨hi,by show is.length - (i+1)<is.length - i;omega⟩,rfl,⟨rr,rr,rr,rr,⟨rfl,ax rfl (ak (by omega) (by omega))⟩,tU⟩,⟨⟨_,rfl,by rw[mN];rfl⟩,ko,⟨_,rfl,?_⟩,⟨_,rfl,QU⟩,tU⟩⟩;rw[mN];refine QS ?_ (fun g=>yY (cs:=cs) (is:=is) _ _ _ hc g);rw[CV _ _ _ _ (by omega)];simp only[hlen]
  ·obtain rfl:i=is.length:=by omega
   conv=>whnf
   refine af (cF hi) (fun _=>?_);repeat' ((conv=>whnf);with_reducible apply af<;>intro _)
   all_goals (try conv=>whnf)
   exact ⟨rfl,[],rfl⟩
