/- Part of the proof: Rf12b ParM Rf12c. Conditions: as each states. -/
import Derived.Test.YtmbdghclhpboaaaGreatPw38
set_option linter.all false
set_option maxRecDepth 100000
set_option maxHeartbeats 8000000
namespace Go.Proofs.YtmbdghclhpboaaaGreat
open Ev Go.RowKit
def tG(a:List Dv)(w:fQ):Option Nat:=if w.any then some 1 else (fB a 3 w.name).map fun y=>y.x.boxes.length
def jk(a:List Dv)(d:Dc)(rules boxes:Nat):Option Nat:=
 if 32<=rules then none
 else if (re a 1 d.role).2≠0 then none
 else if d.kind=6 then some 0
 else if d.hi<d.lo\/7<d.hi then none
 else if (re a 2 d.label).2≠0 then none
 else match tG a d.wh with
  | none=>none
  | some n=>if 32<boxes+n then none else if 16<d.bO then none else some n
def Qg(R:aH)(o:Option Nat)(v:AV)(H':List af):Prop:=∃(k ro lo hi la zo e l c n:Nat) (A:Option Addr) (m:Nat),v=.tuple [.agg [iA k,iA ro,iA lo,iA hi,iA la,.lit (.slice A n m),iA zo],.agg [iA e,iA l,iA c]]/\((o=none/\e≠0)\/(o=some n/\e=0))/\∃G,H'=.res R::G
def Tl(R:aH)(o:Option Nat)(v:AV)(H':List af):Prop:=∃(k ro lo hi la zo e l c j:Nat) (xs:List Value),v=.tuple [.agg [iA k,iA ro,iA lo,iA hi,iA la,.slice (j+1) 0 1 (.k 1),iA zo],.agg [iA e,iA l,iA c]]/\((o=none/\e≠0)\/(o=some 1/\e=0))/\∃G,H'=.res R::G/\G[j]?=some (.cells (xs.map .lit) nA)
theorem MB{R:aH}{A:Option Addr}{m c rules boxes:Nat}{ds:List Dv}{d:Dv}(h:pY R A m ds)(hb:boxes<=1000000)(ha:d.x.wh.any=false):CP [] 99 [.lit (.slice A ds.length c),.agg (dA d.x d.v),iA rules,iA boxes] [.res R] (fun v H'=>Qg R (jk ds d.x rules boxes) v H'\/Tl R (jk ds d.x rules boxes) v H'):=by
 have k1:=K2 (c:=c) (k:=1) (w:=d.x.role) h;have k2:=K2 (c:=c) (k:=2) (w:=d.x.label) h;have k3:=vi (c:=c) (k:=3) (s:=d.x.wh.name) h;have hl:∀y,fB ds 3 d.x.wh.name=some y->y.x.boxes.length<=1000000:=fun y hy=>h.len.2 y (List.mem_of_find?_eq_some hy);unfold jk tG;rw[ha];obtain ⟨s1,pb⟩:∃s,s=re ds 1 d.x.role:=⟨_,rfl⟩;obtain ⟨s2,nY⟩:∃s,s=re ds 2 d.x.label:=⟨_,rfl⟩;obtain ⟨o,ho⟩:∃o,o=fB ds 3 d.x.wh.name:=⟨_,rfl⟩;rw[<-pb] at k1 ⊢;rw[<-nY] at k2 ⊢;rw[<-ho] at k3 hl ⊢;clear pb nY ho;obtain ⟨y1,e1⟩:=s1;obtain ⟨y2,e2⟩:=s2;cases o with
 | none=>
   refine ae U rfl ?_;refine eP.of rfl rfl ?_;refine aF.au fun F hF=>?_;repeat' ((conv=>whnf);first|with_reducible apply aa<;>intro _|refine aJ.drawn U rfl rfl ?_|with_reducible refine And.intro (aG.mk ⟨_,rfl,rfl⟩) ?_|rw[ha]|refine k1.g [0] rfl rfl ⟨ko,tU⟩ fun G=>?_|refine k2.g [0] rfl rfl ⟨ko,tU⟩ fun G=>?_|refine k3.g [0] rfl rfl ⟨ko,tU⟩ fun G=>?_|(show F _ _ _;subst hF;refine aF.au fun F hF=>?_)|(show F _ _ _;subst hF)|refine ae U rfl ?_)
   all_goals (try conv=>whnf)
   all_goals first
    | refine .inl ⟨_,_,_,_,_,_,_,_,_,_,_,_,rfl,?_,_,rfl⟩
    | refine .inr ⟨_,_,_,_,_,_,_,_,_,_,_,rfl,?_,_,rfl,rfl (a:=some (af.cells ((gN ⟨0,0,65535,65535⟩).map .lit) nA))⟩
   all_goals clear k1 k2 k3 hl h
   all_goals simp_all
   all_goals (try first|omega|intro _|refine ⟨by omega,?_⟩)
   all_goals (repeat' split)
   all_goals first|rfl|omega
 | some y=>
   have hy:y.x.boxes.length<=1000000:=hl y rfl;have hw:IntKind.i64.wrap ((boxes:Int)+(y.x.boxes.length:Int))=((boxes+y.x.boxes.length:Nat):Int):=by rw[aj (by omega) (by omega)];omega
   refine ae U rfl ?_;refine eP.of rfl rfl ?_;refine aF.au fun F hF=>?_;repeat' ((conv=>whnf);first|with_reducible apply aa<;>intro _|refine aJ.drawn U rfl rfl ?_|with_reducible refine And.intro (aG.mk ⟨_,rfl,rfl⟩) ?_|rw[ha]|refine k1.g [0] rfl rfl ⟨ko,tU⟩ fun G=>?_|refine k2.g [0] rfl rfl ⟨ko,tU⟩ fun G=>?_|refine k3.g [0] rfl rfl ⟨ko,tU⟩ fun G=>?_|(show F _ _ _;subst hF;refine aF.au fun F hF=>?_)|(show F _ _ _;subst hF)|refine ae U rfl ?_)
   all_goals (try conv=>whnf)
   all_goals first
    | refine .inl ⟨_,_,_,_,_,_,_,_,_,_,_,_,rfl,?_,_,rfl⟩
    | refine .inr ⟨_,_,_,_,_,_,_,_,_,_,_,rfl,?_,_,rfl,rfl (a:=some (af.cells ((gN ⟨0,0,65535,65535⟩).map .lit) nA))⟩
   all_goals clear k1 k2 k3 hl h
   all_goals simp_all
   all_goals (try first|omega|intro _|refine ⟨by omega,?_⟩)
   all_goals (repeat' split)
   all_goals first|rfl|omega
theorem JW{R:aH}{A:Option Addr}{m c rules boxes:Nat}{ds:List Dv}{d:Dv}(h:pY R A m ds)(hb:boxes<=1000000)(ha:d.x.wh.any=true):CP [] 99 [.lit (.slice A ds.length c),.agg (dA d.x d.v),iA rules,iA boxes] [.res R] (fun v H'=>Qg R (jk ds d.x rules boxes) v H'\/Tl R (jk ds d.x rules boxes) v H'):=by
 have k1:=K2 (c:=c) (k:=1) (w:=d.x.role) h;have k2:=K2 (c:=c) (k:=2) (w:=d.x.label) h;unfold jk tG;rw[ha];obtain ⟨s1,pb⟩:∃s,s=re ds 1 d.x.role:=⟨_,rfl⟩;obtain ⟨s2,nY⟩:∃s,s=re ds 2 d.x.label:=⟨_,rfl⟩;rw[<-pb] at k1 ⊢;rw[<-nY] at k2 ⊢;clear pb nY;obtain ⟨y1,e1⟩:=s1;obtain ⟨y2,e2⟩:=s2;have hw:IntKind.i64.wrap ((boxes:Int)+1)=((boxes+1:Nat):Int):=by rw[aj (by omega) (by omega)];omega
 refine ae U rfl ?_;refine eP.of rfl rfl ?_;refine aF.au fun F hF=>?_;repeat' ((conv=>whnf);first|with_reducible apply aa<;>intro _|refine aJ.drawn U rfl rfl ?_|with_reducible refine And.intro (aG.mk ⟨_,rfl,rfl⟩) ?_|rw[ha]|refine k1.g [0] rfl rfl ⟨ko,tU⟩ fun G=>?_|refine k2.g [0] rfl rfl ⟨ko,tU⟩ fun G=>?_|(show F _ _ _;subst hF;refine aF.au fun F hF=>?_)|(show F _ _ _;subst hF)|refine ae U rfl ?_)
 all_goals (try conv=>whnf)
 all_goals first
  | refine .inl ⟨_,_,_,_,_,_,_,_,_,_,_,_,rfl,?_,_,rfl⟩
  | refine .inr ⟨_,_,_,_,_,_,_,_,_,_,_,rfl,?_,_,rfl,rfl (a:=some (af.cells ((gN ⟨0,0,65535,65535⟩).map .lit) nA))⟩
 all_goals clear k1 k2 h
 all_goals simp_all
 all_goals (try first|omega|intro _|refine ⟨by omega,?_⟩)
 all_goals (repeat' split)
 all_goals first|rfl|omega
theorem ag.XI{P:Program}{f:Nat}{args:List AV}{H:List af}{K' K:AV->List af->Prop}(c:ag P [] f args H K')
  (hk:∀v H',K' v H'->K v H'\/∃(Ge:List AV->AV) (cv:Array Value->Value) (_:∀γ l x,an γ (Ge l) x↔∃a:Array Value,x=cv a/\az γ l a.toList) (l1 l2:List AV) (o n:Nat) (cap:o0) (xs:List Value) (e:TypeId),v=Ge (l1++.slice o 0 n cap::l2)/\0<n/\H'[o]?=some (.cells (xs.map .lit) e)/\(∀u∈l1++l2,FE o u)/\∀b off m,K (Ge (l1++.lit (.slice (some ⟨b,off,none⟩) n m)::l2)) (H'.set o (.res (kF ⟨b,off,none⟩ xs)))):ag P [] f args H K:=⟨fun F γ w ys hR cx cJ rm=>by
 obtain ⟨c1,c2⟩:=c.out F γ w ys hR cx cJ rm;refine ⟨c1,fun R fj=>c2 R fun v H' aq x w' k1 k2 k3=>?_⟩;rcases hk v H' k1 with h|⟨Ge,cv,GO,l1,l2,o,n,cap,xs,e,rfl,hn,ho,nU,h⟩
 ·exact fj v H' aq x w' h k2 k3
 ·obtain ⟨a,rfl,k4⟩:=(GO _ _ _).1 k2;obtain ⟨x1,x2,hx,q1,q2⟩:=lU.1 k4;obtain ⟨y,x3,rfl,q3,q4⟩:=q2;simp only[an] at q3;obtain ⟨ad,m,rfl,dj,LU,_⟩:=q3;have dj:=dj.resolve_left (by omega);have rj:o<H'.length:=cM ho;have Cr:aq o≠none:=k3.pl o rj (by simp);have aN:∃p,aq o=some (some p):=by
   cases hg:aq o with
   | none=>exact absurd hg Cr
   | some q=>
     cases q with
     | some p=>exact ⟨p,rfl⟩
     | none=>
       have h1:=k3.rel.gone o hg;rw[aT k3.rel.aU] at h1;rw[ho] at h1;cases h1
  obtain ⟨p,bN⟩:=aN;unfold gz at dj;rw[bN] at dj;simp only[Nat.add_zero] at dj;subst dj;obtain ⟨h1,h2,h3⟩:=uY k3.rel k3.rs bN (.inr ho);have g1:∀i,i≠o->(fJ aq o none) i=aq i:=fun i h=>bU _ _ h;refine fj _ _ _ _ w' (h _ _ m) ((GO _ _ _).2 ⟨_,rfl,lU.2 ⟨x1,_,hx,nO g1 (fun u hu=>nU u (by simp[hu])) q1,_,_,rfl,aM _ _,nO g1 (fun u hu=>nU u (by simp[hu])) q4⟩⟩) ⟨h1,k3.step.trans h3,fun q hq _=>?_,h2⟩;by_cases e:q=o
  ·rw[e,bu];simp
  ·rw[bU _ _ e];exact k3.pl q (by simpa using hq) (by simp)⟩
theorem Lt{e l c:Nat}{γ:aK}{u:List AV}{x:Value}:an γ (.tuple [.agg u,.agg [iA e,iA l,iA c]]) x↔∃a:Array Value,x=.tuple #[.agg a,.agg #[.int .i64 e,.int .i64 l,.int .i64 c]]/\az γ u a.toList:=by
 constructor
 ·rintro ⟨a,rfl,y,ys,h1,⟨b,rfl,h2⟩,z,zs,rfl,⟨d,rfl,p,ps,h3,h4,q,qs,rfl,h5,r,rs,rfl,h6,rfl⟩,rfl⟩;rw[iA,al] at h4 h5 h6;subst h4 h5 h6;refine ⟨b,?_,h2⟩;rw[show a=a.toList.toArray by simp,h1,show d=d.toList.toArray by simp,h3]
 ·rintro ⟨a,rfl,h⟩;exact ⟨_,rfl,_,_,rfl,⟨_,rfl,h⟩,_,_,rfl,⟨_,rfl,_,_,rfl,aM _ _,_,_,rfl,aM _ _,_,_,rfl,aM _ _,rfl⟩,rfl⟩
theorem RY{R:aH}{A:Option Addr}{m c rules boxes:Nat}{ds:List Dv}{d:Dv}(h:pY R A m ds)(hb:boxes<=1000000):CP [] 99 [.lit (.slice A ds.length c),.agg (dA d.x d.v),iA rules,iA boxes] [.res R] (Qg R (jk ds d.x rules boxes)):=by
 refine ag.XI (K':=fun v H'=>Qg R (jk ds d.x rules boxes) v H'\/Tl R (jk ds d.x rules boxes) v H') ?_ ?_
 ·cases ha:d.x.wh.any
  ·exact MB h hb ha
  ·exact JW h hb ha
 ·rintro v H' (k|⟨k,ro,lo,hi,la,zo,e,l,c,j,xs,rfl,ho,G,rfl,hj⟩)
  ·exact .inl k
  ·refine .inr ⟨fun u=>.tuple [.agg u,.agg [iA e,iA l,iA c]],fun a=>.tuple #[.agg a,.agg #[.int .i64 e,.int .i64 l,.int .i64 c]],fun _ _ _=>Lt,[iA k,iA ro,iA lo,iA hi,iA la],[iA zo],j+1,1,.k 1,xs,nA,rfl,Nat.one_pos,hj,fun u hu=>?_,fun b off m=>⟨_,_,_,_,_,_,_,_,_,_,_,_,rfl,ho,_,rfl⟩⟩;simp only[List.cons_append,List.nil_append,List.mem_cons,List.not_mem_nil,or_false] at hu;rcases hu with rfl|rfl|rfl|rfl|rfl|rfl;all_goals exact fun g _=>rfl
end Go.Proofs.YtmbdghclhpboaaaGreat
namespace Go.Proofs.YtmbdghclhpboaaaGreat
def BY(t:Tk):Prop:=(t.kind=1->iP t.text=true)/\(t.kind=3->t.n<=65535)
theorem Kb{c:UInt8}{r:List UInt8}(h:(b9 (c::r)).2=0):BY (b9 (c::r)).1:=by
 unfold BY;unfold b9 at h ⊢;simp only[] at h ⊢;by_cases h1:isLet c=true
 ·rw[if_pos h1] at h ⊢;have hi:cQ c=true:=by unfold cQ;rw[h1];rfl
  rw[List.takeWhile_cons_of_pos hi] at h ⊢;simp only[] at h ⊢;refine ⟨fun hk=>?_,fun hk=>by split at hk<;>cases hk⟩;have hw:isWord (c::r.takeWhile cQ)=false:=by
   cases hb:isWord (c::r.takeWhile cQ)
   ·rfl
   ·rw[hb,if_pos rfl] at hk;cases hk
  have hl:(c::r.takeWhile cQ).length<=16:=by
   by_cases hx:16<(c::r.takeWhile cQ).length
   ·rw[if_pos hx] at h;cases h
   ·omega
  unfold iP;rw[hw,List.headD_cons,h1,decide_eq_true ⟨by simp,hl⟩,List.all_cons,hi];simp only[Bool.not_false,Bool.and_true,Bool.true_and,List.all_takeWhile]
 ·rw[if_neg h1] at h ⊢;by_cases h2:bV c=true
  ·rw[if_pos h2] at h ⊢;by_cases h3:(kO ((c::r).takeWhile bV)).2=true
   ·rw[if_pos h3] at h ⊢;refine ⟨fun hk=>(by cases hk),fun _=>?_⟩;show (kO ((c::r).takeWhile bV)).1<=65535
    unfold kO at h3 ⊢;by_cases h4:1<((c::r).takeWhile bV).length/\((c::r).takeWhile bV).headD 0=48
    ·rw[if_pos h4];exact Nat.zero_le _
    ·rw[if_neg h4] at h3 ⊢;exact of_decide_eq_true h3
   ·rw[if_neg h3] at h;cases h
  ·rw[if_neg h2] at h ⊢;repeat' split
   all_goals exact ⟨fun hk=>(by cases hk),fun hk=>(by cases hk)⟩
theorem D3:∀(k:Nat) (l:List UInt8) (p:Pt) (out:List Tk),(∀t∈out,BY t)->∀t∈(iQ k l p out).1,BY t
 | 0,_,_,_,h=>h
 | k+1,l,p,out,h=>by
   unfold iQ;simp only[];split
   ·exact h
   ·rename_i c r _;by_cases h0:(b9 (c::r)).2=0
    ·rw[if_pos h0];refine D3 k _ _ _ fun t ht=>?_;rcases List.mem_append.1 ht with ht|ht
     ·exact h t ht
     ·rw[List.mem_singleton] at ht;subst ht;exact Kb h0
    ·rw[if_neg h0];intro t ht;cases ht
theorem P6(s:List UInt8):∀t∈(dp s).1,BY t:=by
 unfold dp;split
 ·intro t ht;cases ht
 ·exact D3 _ _ _ _ (fun t ht=>by cases ht)
def Pr.FF(p:Pr):Prop:=∀t∈p.l,BY t
def Good(p q:Pr)(g:Prop):Prop:=p.FF->q.FF/\(q.bad=none->p.bad=none/\g)
theorem Good.then{p q r:Pr}{g h:Prop}(a:Good p q g)(b:Good q r h):Good p r (g/\h):=fun k=>
 ⟨(b (a k).1).1,fun n=>⟨((a k).2 ((b (a k).1).2 n).1).1,((a k).2 ((b (a k).1).2 n).1).2,((b (a k).1).2 n).2⟩⟩
theorem Good.imp{p q:Pr}{g h:Prop}(a:Good p q g)(i:g->h):Good p q h:=fun k=>⟨(a k).1,fun n=>⟨((a k).2 n).1,i ((a k).2 n).2⟩⟩
theorem Good.refl{p:Pr}:Good p p True:=fun k=>⟨k,fun n=>⟨n,tU⟩⟩
variable{e:Nat×Nat}{p:Pr}
theorem yH(h:p.FF):(p.aV e).FF:=by
 unfold Pr.aV;split
 ·exact h
 ·exact h
theorem gQ:Good p p.on True:=fun k=>⟨fun t ht=>k t (List.mem_of_mem_tail ht),fun n=>⟨n,tU⟩⟩
theorem yy{g:Prop}:Good p (p.aV e) g:=fun k=>⟨yH k,fun n=>absurd n (iB e p)⟩
theorem du{s:List UInt8}:Good p (p.want e s) True:=by
 unfold Pr.want;split
 ·exact gQ
 ·exact yy
theorem Az{k:Nat}:Good p (p.take e k).2 (p.kind k=true/\(p.take e k).1.kind=k/\BY (p.take e k).1):=by
 unfold Pr.take;by_cases h:p.kind k=true
 ·rw[if_pos h];intro ho;refine ⟨(gQ ho).1,fun n=>⟨n,h,?_⟩⟩;unfold Pr.kind at h;cases hl:p.l with
  | nil=>rw[hl] at h;simp at h
  | cons t l=>
    rw[hl] at h;simp only[Bool.and_eq_true,decide_eq_true_eq] at h;exact ⟨h.2,ho t (by rw[hl];exact List.mem_cons_self)⟩
 ·rw[if_neg h];exact yy
theorem nS:Good p (gl e p).2 (iP (gl e p).1=true):=Az.imp fun h=>h.2.2.1 h.2.1
theorem gP:Good p (fy e p).2 ((fy e p).1<=65535):=Az.imp fun h=>h.2.2.2 h.2.1
theorem Bg{s:List UInt8}(h:iP s=true):s≠[]:=fun e=>by
 subst e;cases h
theorem xu:Good p (ij e p).2 (gI (ij e p).1=true):=by
 unfold ij;simp only[];split
 ·exact gQ.imp fun _=>rfl
 ·split
  ·refine nS.imp fun h=>?_;unfold gI;simp only[Bool.false_eq_true,if_false];rw[if_pos (Bg h),h];rfl
  ·refine gP.imp fun h=>?_;exact decide_eq_true h
theorem GB:Good p (fZ e p).2 (Cc (fZ e p).1=true):=by
 unfold fZ;simp only[];split
 ·exact gQ.imp fun _=>rfl
 ·refine nS.imp fun h=>?_;unfold Cc gI;simp only[Bool.false_eq_true,if_false];rw[if_pos (Bg h),h,decide_eq_true (Bg h)];rfl
theorem GA:Good p (fY e p).2.2 ((fY e p).1<=65535/\(fY e p).2.1<=65535):=by
 unfold fY;simp only[];split
 ·exact gQ.imp fun _=>⟨Nat.zero_le _,(by show 7<=65535;omega)⟩
 ·split
  ·exact (gP.then (gQ.then gP)).imp fun h=>⟨h.1,h.2.2⟩
  ·exact gP.imp fun h=>⟨h,h⟩
def zY(b:Bx):Prop:=b.x0<=65535/\b.y0<=65535/\b.x1<=65535/\b.y1<=65535
theorem Da:Good p (gG e p).2 (zY (gG e p).1):=by
 unfold gG;exact (gP.then (gP.then (gP.then gP))).imp fun h=>h
theorem Ay:∀(k:Nat) (p:Pr) (out:List Bx),Good p (fu e k p out).2 ((∀b∈out,zY b)->out≠[]->(∀b∈(fu e k p out).1,zY b)/\(fu e k p out).1≠[])
 | 0,_,_=>Good.refl.imp fun _ h h0=>⟨h,h0⟩
 | k+1,p,out=>by
   unfold fu;split
   ·refine (gQ.then (Da.then (Ay k _ _))).imp fun h h1 h0=>h.2.2 (fun b hb=>?_) (by simp);rcases List.mem_append.1 hb with hb|hb
    ·exact h1 b hb
    ·rw[List.mem_singleton] at hb;subst hb;exact h.2.1
   ·exact Good.refl.imp fun _ h h0=>⟨h,h0⟩
theorem Gz:Good p (bt e p).2 (oJ (bt e p).1=true):=by
 unfold bt;refine (Da.then (Ay _ _ _)).imp fun h=>?_;have h:=h.2 (fun b hb=>by rw[List.mem_singleton] at hb;subst hb;exact h.1) (by simp);unfold oJ;rw[decide_eq_true h.2,Bool.and_true,List.all_eq_true];exact fun b hb=>decide_eq_true (h.1 b hb)
theorem uQ{d:Dc}:Good p (de e d p).2 (vn (de e d p).1=true/\(de e d p).1.name=d.name/\(de e d p).1.n=d.n/\(de e d p).1.boxes=d.boxes/\(de e d p).1.kind=d.kind):=by
 unfold de eh;simp only[];refine (((((((((du (s:=bQ)).then xu).then (du (s:=qO))).then GA).then (du (s:=bK))).then xu).then (du (s:=Fs))).then GB).then ((du (s:=sR)).then gP)).imp fun h=>⟨?_,tU,tU,tU,tU⟩;obtain ⟨⟨⟨⟨⟨⟨⟨⟨_,h1⟩,_⟩,h2⟩,_⟩,h3⟩,_⟩,h4⟩,_,h5⟩:=h;unfold vn;simp only[];rw[h1,h3,h4,decide_eq_true ⟨h2.1,h2.2,h5⟩];rfl
theorem I9:Good p (bj e p).2 (fx (bj e p).1=true):=by
 unfold bj;simp only[];split
 ·refine (gQ.then (((nS.then (du (s:=[61]))).then gP).then du)).imp fun h=>?_;unfold fx;simp only[fG,true_or,if_true];rw[h.2.1.1.1];simp only[Bool.true_and,Bool.and_eq_true,decide_eq_true_eq];exact ⟨⟨⟨decide_eq_true h.2.1.2,rfl⟩,rfl⟩,rfl⟩
 split
 ·refine (gQ.then (((nS.then (du (s:=[61]))).then gP).then du)).imp fun h=>?_;unfold fx;simp only[fG,or_true,if_true];rw[h.2.1.1.1];simp only[Bool.true_and,Bool.and_eq_true,decide_eq_true_eq];exact ⟨⟨⟨decide_eq_true h.2.1.2,rfl⟩,rfl⟩,rfl⟩
 split
 ·refine (gQ.then (((nS.then (du (s:=[61]))).then Gz).then du)).imp fun h=>?_;unfold fx;rw[if_neg (by simp[ei]),if_pos (show (ei e _ p.on).1.kind=3 from rfl)];simp only[ei];rw[h.2.1.1.1,h.2.1.2];rfl
 split
 ·refine (gQ.then (uQ.then du)).imp fun h=>?_;obtain ⟨_,⟨h1,h2,h3,h4,h5⟩,_⟩:=h;unfold fx nq;rw[h5,h2,h3,h4,h1];rfl
 split
 ·refine (gQ.then (uQ.then du)).imp fun h=>?_;obtain ⟨_,⟨h1,h2,h3,h4,h5⟩,_⟩:=h;unfold fx nq;rw[h5,h2,h3,h4,h1];rfl
 split
 ·refine (gQ.then (((du (s:=bQ)).then xu).then du)).imp fun h=>?_;unfold fx;rw[if_neg (by simp[eh]),if_neg (by simp[eh]),if_neg (by simp[eh]),if_pos (show (eh e _ p.on).1.kind=6 from rfl)];simp only[eh];rw[h.2.1.2];rfl
 ·exact fun k=>⟨(du ((uQ (yH k)).1)).1,fun n=>absurd n (by rw[xi (iB e p),pn (iB e p)];exact iB e p)⟩
theorem Bk:∀(k:Nat) (p:Pr) (out:List Dc),p.FF->(∀d∈out,fx d=true)->(gV e k p out).2.bad=none->∀d∈(gV e k p out).1,fx d=true
 | 0,_,_,_,h,_=>h
 | k+1,p,out,ho,h,hb=>by
   unfold gV at hb ⊢;split
   ·exact h
   ·rename_i h0;rw[if_neg h0] at hb;have hd:=I9 (e:=e) ho;have hn:(bj e p).2.bad=none:=by
     cases hx:(bj e p).2.bad with
     | none=>rfl
     | some b=>
       rw[mD e k _ _ (.inr (by rw[hx];simp))] at hb;rw[hb] at hx;cases hx
    refine Bk k _ _ hd.1 (fun d y9=>?_) hb;rcases List.mem_append.1 y9 with y9|y9
    ·exact h d y9
    ·rw[List.mem_singleton] at y9;subst y9;exact (hd.2 hn).2
theorem Bn{s:List UInt8}(h:(parse s).2.err=0):∀d∈(parse s).1,fx d=true:=by
 unfold parse at h ⊢;split
 ·intro d hd;cases hd
 ·rename_i h0;rw[if_neg h0] at h;simp only[] at h ⊢;split
  ·rename_i hb;exact Bk _ _ _ (P6 s) (fun d hd=>by cases hd) hb
  ·intro d hd;cases hd
end Go.Proofs.YtmbdghclhpboaaaGreat
namespace Go.Proofs.YtmbdghclhpboaaaGreat
open Ev Go.RowKit
theorem aY{n:Nat}(h:n<=65535){S:List Nat}{H:List af}{K:AV->List af->Prop}(k:K (bA true) H):CP S 179 [iA n] H K:=by
 refine ag.pure ?_ (fun _=>rfl) (fun _=>rfl) k;clear k;refine ae U rfl ?_;repeat' ((conv=>whnf);first|with_reducible apply aa<;>intro _  | refine ae U rfl ?_)
 all_goals (try conv=>whnf)
 all_goals first|rfl|(exfalso;rename_i hx;exact of_decide_eq_false hx (Int.ofNat_le.2 h))
theorem qD{s:List UInt8}(h:iP s=true){S:List Nat}{H:List af}{K:AV->List af->Prop}(k:K (bA true) H):CP S 178 [.lit (cU s)] H K:=by
 refine ag.pure ?_ (fun _=>rfl) (fun _=>rfl) k;clear k;unfold iP at h;simp only[Bool.and_eq_true,decide_eq_true_eq,Bool.not_eq_true'] at h;obtain ⟨⟨⟨⟨h0,y8⟩,hL⟩,hw⟩,ha⟩:=h;have hh:s.headD 0=s[0]:=by
  cases s with
  | nil=>simp at h0
  | cons c r=>rfl
 rw[hh] at hL;have ht:s.takeWhile cQ=s:=by
  rw[List.all_eq_true] at ha;clear hL hw h0 y8 hh;induction s with
  | nil=>rfl
  | cons c r ih=>rw[List.takeWhile_cons_of_pos (ha c List.mem_cons_self),ih fun x hx=>ha x (List.mem_cons_of_mem _ hx)]
 have k1:∀{S:List Nat} {H:List af} {K:AV->List af->Prop},K (iA s.length) H->CP S 266 [.lit (cU s),.lit (.int .i64 0),.lit (.bool false)] H K:=fun {S H K} k=>Pz (i:=0) (d:=false) (Nat.zero_le _) (by omega) (by
  show K (iA ((s.drop 0).takeWhile cQ).length) H
  rw[List.drop_zero,ht];exact k)
 have k2:∀{S:List Nat} {H:List af} {K:AV->List af->Prop},K (bA true) H->CP S 265 [.lit (.int .u8 (s[0]).toNat)] H K:=fun k=>mG _ (hL ▸ k);have k3:∀{S:List Nat} {H:List af} {K:AV->List af->Prop},K (bA false) H->CP S 267 [.lit (cU s)] H K:=fun k=>PI (hw ▸ k);refine ae U rfl ?_;repeat' ((conv=>whnf);first|with_reducible apply aa<;>intro _|refine ai.ej (k:=0) rfl rfl rfl rfl rfl h0 ?_|refine k1 ?_|refine k2 ?_|refine k3 ?_|refine ae U rfl ?_)
 all_goals (try conv=>whnf)
 all_goals first
  | rfl
  | (exfalso;rename_i hx;exact of_decide_eq_false hx (Int.ofNat_lt.2 h0))
  | (exfalso;rename_i hx;exact of_decide_eq_false hx (Int.ofNat_le.2 y8))
  | (exfalso;rename_i hx;exact absurd ((beq_self_eq_true (s.length:Int)).symm.trans hx) (by decide))
theorem cy{w:fQ}(h:jH w=true){S:List Nat}{H:List af}{K:AV->List af->Prop}(k:K (bA true) H):CP S 181 [.agg (wA w)] H K:=by
 refine ag.pure ?_ (fun _=>rfl) (fun _=>rfl) k;clear k;obtain ⟨any,name,n,l,c⟩:=w;unfold jH at h;simp only[Bool.and_eq_true,decide_eq_true_eq,Bool.not_eq_true'] at h;obtain ⟨rfl,rfl,rfl⟩:=h;have hE:((⟨([]:List UInt8).toArray⟩:ByteArray).toList==(⟨#[]⟩:ByteArray).toList)=true:=oz.trans (decide_eq_true rfl);refine ae U rfl ?_;repeat' ((conv=>whnf);first|rw[hE]|with_reducible apply aa<;>intro _)
 all_goals (try conv=>whnf)
 all_goals rfl
theorem iU{w:fQ}(h:gI w=true){S:List Nat}{H:List af}{K:AV->List af->Prop}(k:K (bA true) H):CP S 180 [.agg (wA w)] H K:=by
 refine ag.pure ?_ (fun _=>rfl) (fun _=>rfl) k;clear k;unfold gI at h;cases ha:w.any
 ·rw[ha] at h;by_cases hn:w.name=[]
  ·have hE:((⟨w.name.toArray⟩:ByteArray).toList==(⟨#[]⟩:ByteArray).toList)=true:=oz.trans (decide_eq_true hn);simp only[Bool.false_eq_true,if_false,hn,ne_eq,not_true_eq_false,decide_eq_true_eq] at h;refine ae U rfl ?_;repeat' ((conv=>whnf);first|rw[ha]|rw[hE]|with_reducible apply aa<;>intro _|refine aY h ?_)
   all_goals (try conv=>whnf)
   all_goals rfl
  ·have hE:((⟨w.name.toArray⟩:ByteArray).toList==(⟨#[]⟩:ByteArray).toList)=false:=oz.trans (decide_eq_false hn);simp only[Bool.false_eq_true,if_false,hn,ne_eq,not_false_eq_true,if_true,Bool.and_eq_true,decide_eq_true_eq] at h;have hz:((w.n:Int)==0)=true:=IU.trans (decide_eq_true h.1);refine ae U rfl ?_;repeat' ((conv=>whnf);first|rw[ha]|rw[hE]|rw[hz]|with_reducible apply aa<;>intro _|refine qD h.2 ?_)
   all_goals (try conv=>whnf)
   all_goals first
    | rfl
    | (exfalso;rename_i hx;exact absurd (hz.symm.trans hx) (by decide))
 ·rw[ha] at h;simp only[if_true,decide_eq_true_eq] at h;have hE:((⟨w.name.toArray⟩:ByteArray).toList==(⟨#[]⟩:ByteArray).toList)=true:=oz.trans (decide_eq_true h.1);have hz:((w.n:Int)==0)=true:=IU.trans (decide_eq_true h.2);refine ae U rfl ?_;repeat' ((conv=>whnf);first|rw[ha]|rw[hE]|rw[hz]|with_reducible apply aa<;>intro _)
  all_goals (try conv=>whnf)
  all_goals first
   | rfl
   | (exfalso;rename_i hx;exact absurd (hz.symm.trans hx) (by decide))
theorem Pu{R:aH}{d:Dc}{A:Option Addr}{m:Nat}(h:rf R A d.boxes)(hl:d.boxes.length<=1000000)(hk:d.kind=1)(hn:iP d.name=true)(l1:d.n<=65535)(hb:d.boxes=[])(z1:jH d.role=true)(z2:jH d.label=true)(z3:jH d.wh=true)(e1:d.lo=0)(e2:d.hi=0)(e3:d.bO=0):CP [] 98 [.agg (dA d (.slice A d.boxes.length m))] [.res R] (kl (bA true) [.res R]):=by
 obtain ⟨kind,name,n,boxes,role,lo,hi,label,wh,bO,line,aS⟩:=d;simp only[] at *;subst hk e1 e2 e3;have h0:¬decide ((boxes.length:Int)>0)=true:=by rw[hb];decide
 have gS:∀b∈boxes,zY b:=by rw[hb];intro b hb;cases hb
 refine ae U rfl ?_;refine eP.of rfl rfl ?_;refine aF.au fun F hF=>?_;repeat' ((conv=>whnf);first|with_reducible apply aa<;>intro _|(exfalso;exact h0 (by assumption))|refine cy z1 ?_|refine cy z2 ?_|refine cy z3 ?_|refine iU z1 ?_|refine iU z2 ?_|refine iU z3 ?_|refine qD hn ?_|refine aY l1 ?_|refine aY l2 ?_|refine aY l3 ?_|refine aY l4 ?_|refine aY h4.1 ?_|refine aY h4.2.1 ?_|refine aY h4.2.2.1 ?_|refine aY h4.2.2.2 ?_|exact ck hq (by assumption)|exact cI hq (by assumption)|refine ai.bJ U rfl rfl rfl rfl rfl hq ?_|refine ai.aR (i:=0) (v:=.agg ((gN boxes[k]).map .lit)) rfl (fun w S hR=>bq w S hR k hq) rfl rfl ?_|(refine aW U rfl (fun k:Nat=>[(1,.ptr 1 0),(3,bA true),(4,bA true),(5,bA true),(6,iA (k:Nat))]) (fun _=>[.res R,.cells (dA ⟨1,name,n,boxes,role,0,0,label,wh,0,line,aS⟩ (.slice A boxes.length m)) iz]) (fun k=>k<=boxes.length) (fun k=>boxes.length - k) 0 (Nat.zero_le _) [0,1] ⟨rfl,⟨rr,rr,rr,rr,rr,tU⟩,⟨ko,⟨_,rfl,rfl⟩,tU⟩⟩ ?_;rintro k kX;by_cases hq:k<boxes.length;obtain ⟨a,rfl,bq⟩:=h.rd.at hq;have h4:=gS _ (List.getElem_mem hq))|(show F _ _ _;subst hF;refine aF.au fun F hF=>?_)|(show F _ _ _;subst hF)|refine ae U rfl ?_)
 all_goals (try conv=>whnf)
 all_goals first
  | exact ⟨rfl,_,rfl⟩
  | exact ⟨k+1,[0,1],⟨hq,Nat.sub_lt_sub_left hq (Nat.lt_succ_self _)⟩,rfl,⟨rr,rr,rr,rr,⟨rfl,aw rfl (aj (by omega) (by omega))⟩,tU⟩,⟨ko,⟨_,rfl,rfl⟩,tU⟩⟩
  | exact ck hq (by assumption)
  | exact cI hq (by assumption)
theorem Pv{R:aH}{d:Dc}{A:Option Addr}{m:Nat}(h:rf R A d.boxes)(hl:d.boxes.length<=1000000)(hk:d.kind=2)(hn:iP d.name=true)(l1:d.n<=65535)(hb:d.boxes=[])(z1:jH d.role=true)(z2:jH d.label=true)(z3:jH d.wh=true)(e1:d.lo=0)(e2:d.hi=0)(e3:d.bO=0):CP [] 98 [.agg (dA d (.slice A d.boxes.length m))] [.res R] (kl (bA true) [.res R]):=by
 obtain ⟨kind,name,n,boxes,role,lo,hi,label,wh,bO,line,aS⟩:=d;simp only[] at *;subst hk e1 e2 e3;have h0:¬decide ((boxes.length:Int)>0)=true:=by rw[hb];decide
 have gS:∀b∈boxes,zY b:=by rw[hb];intro b hb;cases hb
 refine ae U rfl ?_;refine eP.of rfl rfl ?_;refine aF.au fun F hF=>?_;repeat' ((conv=>whnf);first|with_reducible apply aa<;>intro _|(exfalso;exact h0 (by assumption))|refine cy z1 ?_|refine cy z2 ?_|refine cy z3 ?_|refine iU z1 ?_|refine iU z2 ?_|refine iU z3 ?_|refine qD hn ?_|refine aY l1 ?_|refine aY l2 ?_|refine aY l3 ?_|refine aY l4 ?_|refine aY h4.1 ?_|refine aY h4.2.1 ?_|refine aY h4.2.2.1 ?_|refine aY h4.2.2.2 ?_|exact ck hq (by assumption)|exact cI hq (by assumption)|refine ai.bJ U rfl rfl rfl rfl rfl hq ?_|refine ai.aR (i:=0) (v:=.agg ((gN boxes[k]).map .lit)) rfl (fun w S hR=>bq w S hR k hq) rfl rfl ?_|(refine aW U rfl (fun k:Nat=>[(1,.ptr 1 0),(3,bA true),(4,bA true),(5,bA true),(6,iA (k:Nat))]) (fun _=>[.res R,.cells (dA ⟨2,name,n,boxes,role,0,0,label,wh,0,line,aS⟩ (.slice A boxes.length m)) iz]) (fun k=>k<=boxes.length) (fun k=>boxes.length - k) 0 (Nat.zero_le _) [0,1] ⟨rfl,⟨rr,rr,rr,rr,rr,tU⟩,⟨ko,⟨_,rfl,rfl⟩,tU⟩⟩ ?_;rintro k kX;by_cases hq:k<boxes.length;obtain ⟨a,rfl,bq⟩:=h.rd.at hq;have h4:=gS _ (List.getElem_mem hq))|(show F _ _ _;subst hF;refine aF.au fun F hF=>?_)|(show F _ _ _;subst hF)|refine ae U rfl ?_)
 all_goals (try conv=>whnf)
 all_goals first
  | exact ⟨rfl,_,rfl⟩
  | exact ⟨k+1,[0,1],⟨hq,Nat.sub_lt_sub_left hq (Nat.lt_succ_self _)⟩,rfl,⟨rr,rr,rr,rr,⟨rfl,aw rfl (aj (by omega) (by omega))⟩,tU⟩,⟨ko,⟨_,rfl,rfl⟩,tU⟩⟩
  | exact ck hq (by assumption)
  | exact cI hq (by assumption)
theorem Pw{R:aH}{d:Dc}{A:Option Addr}{m:Nat}(h:rf R A d.boxes)(hl:d.boxes.length<=1000000)(hk:d.kind=3)(hn:iP d.name=true)(e4:d.n=0)(hb:0<d.boxes.length)(gS:∀b∈d.boxes,zY b)(z1:jH d.role=true)(z2:jH d.label=true)(z3:jH d.wh=true)(e1:d.lo=0)(e2:d.hi=0)(e3:d.bO=0):CP [] 98 [.agg (dA d (.slice A d.boxes.length m))] [.res R] (kl (bA true) [.res R]):=by
 obtain ⟨kind,name,n,boxes,role,lo,hi,label,wh,bO,line,aS⟩:=d;simp only[] at *;subst hk e1 e2 e3 e4;have h0:¬decide ((boxes.length:Int)>0)=false:=fun h=>of_decide_eq_false h (Int.ofNat_lt.2 hb);refine ae U rfl ?_;refine eP.of rfl rfl ?_;refine aF.au fun F hF=>?_;repeat' ((conv=>whnf);first|with_reducible apply aa<;>intro _|(exfalso;exact h0 (by assumption))|refine cy z1 ?_|refine cy z2 ?_|refine cy z3 ?_|refine iU z1 ?_|refine iU z2 ?_|refine iU z3 ?_|refine qD hn ?_|refine aY l1 ?_|refine aY l2 ?_|refine aY l3 ?_|refine aY l4 ?_|refine aY h4.1 ?_|refine aY h4.2.1 ?_|refine aY h4.2.2.1 ?_|refine aY h4.2.2.2 ?_|exact ck hq (by assumption)|exact cI hq (by assumption)|refine ai.bJ U rfl rfl rfl rfl rfl hq ?_|refine ai.aR (i:=0) (v:=.agg ((gN boxes[k]).map .lit)) rfl (fun w S hR=>bq w S hR k hq) rfl rfl ?_|(refine aW U rfl (fun k:Nat=>[(1,.ptr 1 0),(3,bA true),(4,bA true),(5,bA true),(6,iA (k:Nat))]) (fun _=>[.res R,.cells (dA ⟨3,name,0,boxes,role,0,0,label,wh,0,line,aS⟩ (.slice A boxes.length m)) iz]) (fun k=>k<=boxes.length) (fun k=>boxes.length - k) 0 (Nat.zero_le _) [0,1] ⟨rfl,⟨rr,rr,rr,rr,rr,tU⟩,⟨ko,⟨_,rfl,rfl⟩,tU⟩⟩ ?_;rintro k kX;by_cases hq:k<boxes.length;obtain ⟨a,rfl,bq⟩:=h.rd.at hq;have h4:=gS _ (List.getElem_mem hq))|(show F _ _ _;subst hF;refine aF.au fun F hF=>?_)|(show F _ _ _;subst hF)|refine ae U rfl ?_)
 all_goals (try conv=>whnf)
 all_goals first
  | exact ⟨rfl,_,rfl⟩
  | exact ⟨k+1,[0,1],⟨hq,Nat.sub_lt_sub_left hq (Nat.lt_succ_self _)⟩,rfl,⟨rr,rr,rr,rr,⟨rfl,aw rfl (aj (by omega) (by omega))⟩,tU⟩,⟨ko,⟨_,rfl,rfl⟩,tU⟩⟩
  | exact ck hq (by assumption)
  | exact cI hq (by assumption)
theorem Ib{R:aH}{d:Dc}{A:Option Addr}{m:Nat}(h:rf R A d.boxes)(hl:d.boxes.length<=1000000)(hk:d.kind=4)(e4:d.n=0)(e5:d.name=[])(hb:d.boxes=[])(z1:gI d.role=true)(z2:gI d.label=true)(z3:gI d.wh=true)(l1:d.lo<=65535)(l2:d.hi<=65535)(l3:d.bO<=65535)(ha:d.wh.any=true):CP [] 98 [.agg (dA d (.slice A d.boxes.length m))] [.res R] (kl (bA true) [.res R]):=by
 obtain ⟨kind,name,n,boxes,role,lo,hi,label,wh,bO,line,aS⟩:=d;obtain ⟨P8,qP,wn,wl,wc⟩:=wh;simp only[] at *;subst hk e4 ha;have h0:¬decide ((boxes.length:Int)>0)=true:=by rw[hb];decide
 have gS:∀b∈boxes,zY b:=by rw[hb];intro b hb;cases hb
 have hE:((⟨name.toArray⟩:ByteArray).toList==(⟨#[]⟩:ByteArray).toList)=true:=oz.trans (decide_eq_true e5);refine ae U rfl ?_;refine eP.of rfl rfl ?_;refine aF.au fun F hF=>?_;repeat' ((conv=>whnf);first|rw[hE]|with_reducible apply aa<;>intro _|(exfalso;exact h0 (by assumption))|refine cy z1 ?_|refine cy z2 ?_|refine cy z3 ?_|refine iU z1 ?_|refine iU z2 ?_|refine iU z3 ?_|refine qD hn ?_|refine aY l1 ?_|refine aY l2 ?_|refine aY l3 ?_|refine aY l4 ?_|refine aY h4.1 ?_|refine aY h4.2.1 ?_|refine aY h4.2.2.1 ?_|refine aY h4.2.2.2 ?_|exact ck hq (by assumption)|exact cI hq (by assumption)|refine ai.bJ U rfl rfl rfl rfl rfl hq ?_|refine ai.aR (i:=0) (v:=.agg ((gN boxes[k]).map .lit)) rfl (fun w S hR=>bq w S hR k hq) rfl rfl ?_|(refine aW U rfl (fun k:Nat=>[(1,.ptr 1 0),(3,bA true),(4,bA true),(5,bA true),(6,iA (k:Nat))]) (fun _=>[.res R,.cells (dA ⟨4,name,0,boxes,role,lo,hi,label,⟨true,qP,wn,wl,wc⟩,bO,line,aS⟩ (.slice A boxes.length m)) iz]) (fun k=>k<=boxes.length) (fun k=>boxes.length - k) 0 (Nat.zero_le _) [0,1] ⟨rfl,⟨rr,rr,rr,rr,rr,tU⟩,⟨ko,⟨_,rfl,rfl⟩,tU⟩⟩ ?_;rintro k kX;by_cases hq:k<boxes.length;obtain ⟨a,rfl,bq⟩:=h.rd.at hq;have h4:=gS _ (List.getElem_mem hq))|(show F _ _ _;subst hF;refine aF.au fun F hF=>?_)|(show F _ _ _;subst hF)|refine ae U rfl ?_)
 all_goals (try conv=>whnf)
 all_goals first
  | exact ⟨rfl,_,rfl⟩
  | exact ⟨k+1,[0,1],⟨hq,Nat.sub_lt_sub_left hq (Nat.lt_succ_self _)⟩,rfl,⟨rr,rr,rr,rr,⟨rfl,aw rfl (aj (by omega) (by omega))⟩,tU⟩,⟨ko,⟨_,rfl,rfl⟩,tU⟩⟩
  | exact ck hq (by assumption)
  | exact cI hq (by assumption)
theorem JU{R:aH}{d:Dc}{A:Option Addr}{m:Nat}(h:rf R A d.boxes)(hl:d.boxes.length<=1000000)(hk:d.kind=4)(e4:d.n=0)(e5:d.name=[])(hb:d.boxes=[])(z1:gI d.role=true)(z2:gI d.label=true)(z3:gI d.wh=true)(l1:d.lo<=65535)(l2:d.hi<=65535)(l3:d.bO<=65535)(ha:d.wh.any=false)(e6:d.wh.name≠[]):CP [] 98 [.agg (dA d (.slice A d.boxes.length m))] [.res R] (kl (bA true) [.res R]):=by
 obtain ⟨kind,name,n,boxes,role,lo,hi,label,wh,bO,line,aS⟩:=d;obtain ⟨P8,qP,wn,wl,wc⟩:=wh;simp only[] at *;subst hk e4 ha;have h0:¬decide ((boxes.length:Int)>0)=true:=by rw[hb];decide
 have gS:∀b∈boxes,zY b:=by rw[hb];intro b hb;cases hb
 have hE:((⟨name.toArray⟩:ByteArray).toList==(⟨#[]⟩:ByteArray).toList)=true:=oz.trans (decide_eq_true e5);have hV:((⟨qP.toArray⟩:ByteArray).toList==(⟨#[]⟩:ByteArray).toList)=false:=oz.trans (decide_eq_false e6);refine ae U rfl ?_;refine eP.of rfl rfl ?_;refine aF.au fun F hF=>?_;repeat' ((conv=>whnf);first|rw[hE]|rw[hV]|with_reducible apply aa<;>intro _|(exfalso;exact h0 (by assumption))|refine cy z1 ?_|refine cy z2 ?_|refine cy z3 ?_|refine iU z1 ?_|refine iU z2 ?_|refine iU z3 ?_|refine qD hn ?_|refine aY l1 ?_|refine aY l2 ?_|refine aY l3 ?_|refine aY l4 ?_|refine aY h4.1 ?_|refine aY h4.2.1 ?_|refine aY h4.2.2.1 ?_|refine aY h4.2.2.2 ?_|exact ck hq (by assumption)|exact cI hq (by assumption)|refine ai.bJ U rfl rfl rfl rfl rfl hq ?_|refine ai.aR (i:=0) (v:=.agg ((gN boxes[k]).map .lit)) rfl (fun w S hR=>bq w S hR k hq) rfl rfl ?_|(refine aW U rfl (fun k:Nat=>[(1,.ptr 1 0),(3,bA true),(4,bA true),(5,bA true),(6,iA (k:Nat))]) (fun _=>[.res R,.cells (dA ⟨4,name,0,boxes,role,lo,hi,label,⟨false,qP,wn,wl,wc⟩,bO,line,aS⟩ (.slice A boxes.length m)) iz]) (fun k=>k<=boxes.length) (fun k=>boxes.length - k) 0 (Nat.zero_le _) [0,1] ⟨rfl,⟨rr,rr,rr,rr,rr,tU⟩,⟨ko,⟨_,rfl,rfl⟩,tU⟩⟩ ?_;rintro k kX;by_cases hq:k<boxes.length;obtain ⟨a,rfl,bq⟩:=h.rd.at hq;have h4:=gS _ (List.getElem_mem hq))|(show F _ _ _;subst hF;refine aF.au fun F hF=>?_)|(show F _ _ _;subst hF)|refine ae U rfl ?_)
 all_goals (try conv=>whnf)
 all_goals first
  | exact ⟨rfl,_,rfl⟩
  | exact ⟨k+1,[0,1],⟨hq,Nat.sub_lt_sub_left hq (Nat.lt_succ_self _)⟩,rfl,⟨rr,rr,rr,rr,⟨rfl,aw rfl (aj (by omega) (by omega))⟩,tU⟩,⟨ko,⟨_,rfl,rfl⟩,tU⟩⟩
  | exact ck hq (by assumption)
  | exact cI hq (by assumption)
theorem Ic{R:aH}{d:Dc}{A:Option Addr}{m:Nat}(h:rf R A d.boxes)(hl:d.boxes.length<=1000000)(hk:d.kind=5)(e4:d.n=0)(e5:d.name=[])(hb:d.boxes=[])(z1:gI d.role=true)(z2:gI d.label=true)(z3:gI d.wh=true)(l1:d.lo<=65535)(l2:d.hi<=65535)(l3:d.bO<=65535)(ha:d.wh.any=true):CP [] 98 [.agg (dA d (.slice A d.boxes.length m))] [.res R] (kl (bA true) [.res R]):=by
 obtain ⟨kind,name,n,boxes,role,lo,hi,label,wh,bO,line,aS⟩:=d;obtain ⟨P8,qP,wn,wl,wc⟩:=wh;simp only[] at *;subst hk e4 ha;have h0:¬decide ((boxes.length:Int)>0)=true:=by rw[hb];decide
 have gS:∀b∈boxes,zY b:=by rw[hb];intro b hb;cases hb
 have hE:((⟨name.toArray⟩:ByteArray).toList==(⟨#[]⟩:ByteArray).toList)=true:=oz.trans (decide_eq_true e5);refine ae U rfl ?_;refine eP.of rfl rfl ?_;refine aF.au fun F hF=>?_;repeat' ((conv=>whnf);first|rw[hE]|with_reducible apply aa<;>intro _|(exfalso;exact h0 (by assumption))|refine cy z1 ?_|refine cy z2 ?_|refine cy z3 ?_|refine iU z1 ?_|refine iU z2 ?_|refine iU z3 ?_|refine qD hn ?_|refine aY l1 ?_|refine aY l2 ?_|refine aY l3 ?_|refine aY l4 ?_|refine aY h4.1 ?_|refine aY h4.2.1 ?_|refine aY h4.2.2.1 ?_|refine aY h4.2.2.2 ?_|exact ck hq (by assumption)|exact cI hq (by assumption)|refine ai.bJ U rfl rfl rfl rfl rfl hq ?_|refine ai.aR (i:=0) (v:=.agg ((gN boxes[k]).map .lit)) rfl (fun w S hR=>bq w S hR k hq) rfl rfl ?_|(refine aW U rfl (fun k:Nat=>[(1,.ptr 1 0),(3,bA true),(4,bA true),(5,bA true),(6,iA (k:Nat))]) (fun _=>[.res R,.cells (dA ⟨5,name,0,boxes,role,lo,hi,label,⟨true,qP,wn,wl,wc⟩,bO,line,aS⟩ (.slice A boxes.length m)) iz]) (fun k=>k<=boxes.length) (fun k=>boxes.length - k) 0 (Nat.zero_le _) [0,1] ⟨rfl,⟨rr,rr,rr,rr,rr,tU⟩,⟨ko,⟨_,rfl,rfl⟩,tU⟩⟩ ?_;rintro k kX;by_cases hq:k<boxes.length;obtain ⟨a,rfl,bq⟩:=h.rd.at hq;have h4:=gS _ (List.getElem_mem hq))|(show F _ _ _;subst hF;refine aF.au fun F hF=>?_)|(show F _ _ _;subst hF)|refine ae U rfl ?_)
 all_goals (try conv=>whnf)
 all_goals first
  | exact ⟨rfl,_,rfl⟩
  | exact ⟨k+1,[0,1],⟨hq,Nat.sub_lt_sub_left hq (Nat.lt_succ_self _)⟩,rfl,⟨rr,rr,rr,rr,⟨rfl,aw rfl (aj (by omega) (by omega))⟩,tU⟩,⟨ko,⟨_,rfl,rfl⟩,tU⟩⟩
  | exact ck hq (by assumption)
  | exact cI hq (by assumption)
theorem JV{R:aH}{d:Dc}{A:Option Addr}{m:Nat}(h:rf R A d.boxes)(hl:d.boxes.length<=1000000)(hk:d.kind=5)(e4:d.n=0)(e5:d.name=[])(hb:d.boxes=[])(z1:gI d.role=true)(z2:gI d.label=true)(z3:gI d.wh=true)(l1:d.lo<=65535)(l2:d.hi<=65535)(l3:d.bO<=65535)(ha:d.wh.any=false)(e6:d.wh.name≠[]):CP [] 98 [.agg (dA d (.slice A d.boxes.length m))] [.res R] (kl (bA true) [.res R]):=by
 obtain ⟨kind,name,n,boxes,role,lo,hi,label,wh,bO,line,aS⟩:=d;obtain ⟨P8,qP,wn,wl,wc⟩:=wh;simp only[] at *;subst hk e4 ha;have h0:¬decide ((boxes.length:Int)>0)=true:=by rw[hb];decide
 have gS:∀b∈boxes,zY b:=by rw[hb];intro b hb;cases hb
 have hE:((⟨name.toArray⟩:ByteArray).toList==(⟨#[]⟩:ByteArray).toList)=true:=oz.trans (decide_eq_true e5);have hV:((⟨qP.toArray⟩:ByteArray).toList==(⟨#[]⟩:ByteArray).toList)=false:=oz.trans (decide_eq_false e6);refine ae U rfl ?_;refine eP.of rfl rfl ?_;refine aF.au fun F hF=>?_;repeat' ((conv=>whnf);first|rw[hE]|rw[hV]|with_reducible apply aa<;>intro _|(exfalso;exact h0 (by assumption))|refine cy z1 ?_|refine cy z2 ?_|refine cy z3 ?_|refine iU z1 ?_|refine iU z2 ?_|refine iU z3 ?_|refine qD hn ?_|refine aY l1 ?_|refine aY l2 ?_|refine aY l3 ?_|refine aY l4 ?_|refine aY h4.1 ?_|refine aY h4.2.1 ?_|refine aY h4.2.2.1 ?_|refine aY h4.2.2.2 ?_|exact ck hq (by assumption)|exact cI hq (by assumption)|refine ai.bJ U rfl rfl rfl rfl rfl hq ?_|refine ai.aR (i:=0) (v:=.agg ((gN boxes[k]).map .lit)) rfl (fun w S hR=>bq w S hR k hq) rfl rfl ?_|(refine aW U rfl (fun k:Nat=>[(1,.ptr 1 0),(3,bA true),(4,bA true),(5,bA true),(6,iA (k:Nat))]) (fun _=>[.res R,.cells (dA ⟨5,name,0,boxes,role,lo,hi,label,⟨false,qP,wn,wl,wc⟩,bO,line,aS⟩ (.slice A boxes.length m)) iz]) (fun k=>k<=boxes.length) (fun k=>boxes.length - k) 0 (Nat.zero_le _) [0,1] ⟨rfl,⟨rr,rr,rr,rr,rr,tU⟩,⟨ko,⟨_,rfl,rfl⟩,tU⟩⟩ ?_;rintro k kX;by_cases hq:k<boxes.length;obtain ⟨a,rfl,bq⟩:=h.rd.at hq;have h4:=gS _ (List.getElem_mem hq))|(show F _ _ _;subst hF;refine aF.au fun F hF=>?_)|(show F _ _ _;subst hF)|refine ae U rfl ?_)
 all_goals (try conv=>whnf)
 all_goals first
  | exact ⟨rfl,_,rfl⟩
  | exact ⟨k+1,[0,1],⟨hq,Nat.sub_lt_sub_left hq (Nat.lt_succ_self _)⟩,rfl,⟨rr,rr,rr,rr,⟨rfl,aw rfl (aj (by omega) (by omega))⟩,tU⟩,⟨ko,⟨_,rfl,rfl⟩,tU⟩⟩
  | exact ck hq (by assumption)
  | exact cI hq (by assumption)
theorem Px{R:aH}{d:Dc}{A:Option Addr}{m:Nat}(h:rf R A d.boxes)(hl:d.boxes.length<=1000000)(hk:d.kind=6)(e4:d.n=0)(e5:d.name=[])(hb:d.boxes=[])(z1:gI d.role=true)(z2:jH d.label=true)(z3:jH d.wh=true)(e1:d.lo=0)(e2:d.hi=0)(e3:d.bO=0):CP [] 98 [.agg (dA d (.slice A d.boxes.length m))] [.res R] (kl (bA true) [.res R]):=by
 obtain ⟨kind,name,n,boxes,role,lo,hi,label,wh,bO,line,aS⟩:=d;simp only[] at *;subst hk e1 e2 e3 e4;have h0:¬decide ((boxes.length:Int)>0)=true:=by rw[hb];decide
 have gS:∀b∈boxes,zY b:=by rw[hb];intro b hb;cases hb
 have hE:((⟨name.toArray⟩:ByteArray).toList==(⟨#[]⟩:ByteArray).toList)=true:=oz.trans (decide_eq_true e5);refine ae U rfl ?_;refine eP.of rfl rfl ?_;refine aF.au fun F hF=>?_;repeat' ((conv=>whnf);first|rw[hE]|with_reducible apply aa<;>intro _|(exfalso;exact h0 (by assumption))|refine cy z1 ?_|refine cy z2 ?_|refine cy z3 ?_|refine iU z1 ?_|refine iU z2 ?_|refine iU z3 ?_|refine qD hn ?_|refine aY l1 ?_|refine aY l2 ?_|refine aY l3 ?_|refine aY l4 ?_|refine aY h4.1 ?_|refine aY h4.2.1 ?_|refine aY h4.2.2.1 ?_|refine aY h4.2.2.2 ?_|exact ck hq (by assumption)|exact cI hq (by assumption)|refine ai.bJ U rfl rfl rfl rfl rfl hq ?_|refine ai.aR (i:=0) (v:=.agg ((gN boxes[k]).map .lit)) rfl (fun w S hR=>bq w S hR k hq) rfl rfl ?_|(refine aW U rfl (fun k:Nat=>[(1,.ptr 1 0),(3,bA true),(4,bA true),(5,bA true),(6,iA (k:Nat))]) (fun _=>[.res R,.cells (dA ⟨6,name,0,boxes,role,0,0,label,wh,0,line,aS⟩ (.slice A boxes.length m)) iz]) (fun k=>k<=boxes.length) (fun k=>boxes.length - k) 0 (Nat.zero_le _) [0,1] ⟨rfl,⟨rr,rr,rr,rr,rr,tU⟩,⟨ko,⟨_,rfl,rfl⟩,tU⟩⟩ ?_;rintro k kX;by_cases hq:k<boxes.length;obtain ⟨a,rfl,bq⟩:=h.rd.at hq;have h4:=gS _ (List.getElem_mem hq))|(show F _ _ _;subst hF;refine aF.au fun F hF=>?_)|(show F _ _ _;subst hF)|refine ae U rfl ?_)
 all_goals (try conv=>whnf)
 all_goals first
  | exact ⟨rfl,_,rfl⟩
  | exact ⟨k+1,[0,1],⟨hq,Nat.sub_lt_sub_left hq (Nat.lt_succ_self _)⟩,rfl,⟨rr,rr,rr,rr,⟨rfl,aw rfl (aj (by omega) (by omega))⟩,tU⟩,⟨ko,⟨_,rfl,rfl⟩,tU⟩⟩
  | exact ck hq (by assumption)
  | exact cI hq (by assumption)
end Go.Proofs.YtmbdghclhpboaaaGreat
