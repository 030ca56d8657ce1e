/- Part of the proof: Rf12b ParM Rf12c. Conditions: as each states. -/
import Derived.Test.YtmbdghclhpboaaaGreatPq41
set_option linter.all false
set_option maxRecDepth 100000
set_option maxHeartbeats 8000000
namespace Go.Proofs.YtmbdghclhpboaaaGreat
open Ev Go.RowKit
def uJ(a:List Dv)(w:gw):Option Nat:=if w.any then some 1 else (fY a 3 w.name).map fun y=>y.x.boxes.length
def jU(a:List Dv)(d:Dc)(rules boxes:Nat):Option Nat:=
 if 32<=rules then none
 else if (r9 a 1 d.role).2≠0 then none
 else if d.kind=6 then some 0
 else if d.hi<d.lo\/7<d.hi then none
 else if (r9 a 2 d.label).2≠0 then none
 else match uJ a d.wh with
  | none=>none
  | some n=>if 32<boxes+n then none else if 16<d.bV then none else some n
def SG(R:aC)(o:Option Nat)(v:AV)(H':List ai):Prop:=∃(k ro lo hi la zo e l c n:Nat) (A:Option Addr) (m:Nat),v=.tuple [.agg [iA k,iA ro,iA lo,iA hi,iA la,.lit (.slice A n m),iA zo],.agg [iA e,iA l,iA c]]/\((o=none/\e≠0)\/(o=some n/\e=0))/\∃G,H'=.res R::G
def V4(R:aC)(o:Option Nat)(v:AV)(H':List ai):Prop:=∃(k ro lo hi la zo e l c j:Nat) (xs:List Value),v=.tuple [.agg [iA k,iA ro,iA lo,iA hi,iA la,.slice (j+1) 0 1 (.k 1),iA zo],.agg [iA e,iA l,iA c]]/\((o=none/\e≠0)\/(o=some 1/\e=0))/\∃G,H'=.res R::G/\G[j]?=some (.cells (xs.map .lit) oA)
theorem Ov{R:aC}{A:Option Addr}{m c rules boxes:Nat}{ds:List Dv}{d:Dv}(h:qM R A m ds)(hb:boxes<=1000000)(ha:d.x.wh.any=false):CP [] 99 [.lit (.slice A ds.length c),.agg (dA d.x d.v),iA rules,iA boxes] [.res R] (fun v H'=>SG R (jU ds d.x rules boxes) v H'\/V4 R (jU ds d.x rules boxes) v H'):=by
 have k1:=MP (c:=c) (k:=1) (w:=d.x.role) h;have k2:=MP (c:=c) (k:=2) (w:=d.x.label) h;have k3:=vO (c:=c) (k:=3) (s:=d.x.wh.name) h;have hl:∀y,fY ds 3 d.x.wh.name=some y->y.x.boxes.length<=1000000:=fun y hy=>h.len.2 y (List.mem_of_find?_eq_some hy);unfold jU uJ;rw[ha];obtain ⟨s1,mN⟩:∃s,s=r9 ds 1 d.x.role:=⟨_,rfl⟩;obtain ⟨s2,oU⟩:∃s,s=r9 ds 2 d.x.label:=⟨_,rfl⟩;obtain ⟨o,ho⟩:∃o,o=fY ds 3 d.x.wh.name:=⟨_,rfl⟩;rw[<-mN] at k1 ⊢;rw[<-oU] at k2 ⊢;rw[<-ho] at k3 hl ⊢;clear mN oU ho;obtain ⟨y1,e1⟩:=s1;obtain ⟨y2,e2⟩:=s2;cases o with
 | none=>
   refine ag aa rfl ?_;refine eX.of rfl rfl ?_;refine aI.az fun F hF=>?_;repeat' ((conv=>whnf);first|with_reducible apply af<;>intro _|refine aM.drawn aa rfl rfl ?_|with_reducible refine And.intro (aN.mk ⟨_,rfl,rfl⟩) ?_|rw[ha]|refine k1.g [0] rfl rfl ⟨ko,tU⟩ fun G=>?_|refine k2.g [0] rfl rfl ⟨ko,tU⟩ fun G=>?_|refine k3.g [0] rfl rfl ⟨ko,tU⟩ fun G=>?_|(show F _ _ _;subst hF;refine aI.az fun F hF=>?_)|(show F _ _ _;subst hF)|refine ag aa rfl ?_)
   all_goals (try conv=>whnf)
   all_goals first
    | refine .inl ⟨_,_,_,_,_,_,_,_,_,_,_,_,rfl,?_,_,rfl⟩
    | refine .inr ⟨_,_,_,_,_,_,_,_,_,_,_,rfl,?_,_,rfl,rfl (a:=some (ai.cells ((iy ⟨0,0,65535,65535⟩).map .lit) oA))⟩
   all_goals clear k1 k2 k3 hl h
   all_goals simp_all
   all_goals (try first|omega|intro _|refine ⟨by omega,?_⟩)
   all_goals (repeat' split)
   all_goals first|rfl|omega
 | some y=>
   have hy:y.x.boxes.length<=1000000:=hl y rfl;have hw:IntKind.i64.wrap ((boxes:Int)+(y.x.boxes.length:Int))=((boxes+y.x.boxes.length:Nat):Int):=by rw[ak (by omega) (by omega)];omega
   refine ag aa rfl ?_;refine eX.of rfl rfl ?_;refine aI.az fun F hF=>?_;repeat' ((conv=>whnf);first|with_reducible apply af<;>intro _|refine aM.drawn aa rfl rfl ?_|with_reducible refine And.intro (aN.mk ⟨_,rfl,rfl⟩) ?_|rw[ha]|refine k1.g [0] rfl rfl ⟨ko,tU⟩ fun G=>?_|refine k2.g [0] rfl rfl ⟨ko,tU⟩ fun G=>?_|refine k3.g [0] rfl rfl ⟨ko,tU⟩ fun G=>?_|(show F _ _ _;subst hF;refine aI.az fun F hF=>?_)|(show F _ _ _;subst hF)|refine ag aa rfl ?_)
   all_goals (try conv=>whnf)
   all_goals first
    | refine .inl ⟨_,_,_,_,_,_,_,_,_,_,_,_,rfl,?_,_,rfl⟩
    | refine .inr ⟨_,_,_,_,_,_,_,_,_,_,_,rfl,?_,_,rfl,rfl (a:=some (ai.cells ((iy ⟨0,0,65535,65535⟩).map .lit) oA))⟩
   all_goals clear k1 k2 k3 hl h
   all_goals simp_all
   all_goals (try first|omega|intro _|refine ⟨by omega,?_⟩)
   all_goals (repeat' split)
   all_goals first|rfl|omega
theorem Lr{R:aC}{A:Option Addr}{m c rules boxes:Nat}{ds:List Dv}{d:Dv}(h:qM R A m ds)(hb:boxes<=1000000)(ha:d.x.wh.any=true):CP [] 99 [.lit (.slice A ds.length c),.agg (dA d.x d.v),iA rules,iA boxes] [.res R] (fun v H'=>SG R (jU ds d.x rules boxes) v H'\/V4 R (jU ds d.x rules boxes) v H'):=by
 have k1:=MP (c:=c) (k:=1) (w:=d.x.role) h;have k2:=MP (c:=c) (k:=2) (w:=d.x.label) h;unfold jU uJ;rw[ha];obtain ⟨s1,mN⟩:∃s,s=r9 ds 1 d.x.role:=⟨_,rfl⟩;obtain ⟨s2,oU⟩:∃s,s=r9 ds 2 d.x.label:=⟨_,rfl⟩;rw[<-mN] at k1 ⊢;rw[<-oU] at k2 ⊢;clear mN oU;obtain ⟨y1,e1⟩:=s1;obtain ⟨y2,e2⟩:=s2;have hw:IntKind.i64.wrap ((boxes:Int)+1)=((boxes+1:Nat):Int):=by rw[ak (by omega) (by omega)];omega
 refine ag aa rfl ?_;refine eX.of rfl rfl ?_;refine aI.az fun F hF=>?_;repeat' ((conv=>whnf);first|with_reducible apply af<;>intro _|refine aM.drawn aa rfl rfl ?_|with_reducible refine And.intro (aN.mk ⟨_,rfl,rfl⟩) ?_|rw[ha]|refine k1.g [0] rfl rfl ⟨ko,tU⟩ fun G=>?_|refine k2.g [0] rfl rfl ⟨ko,tU⟩ fun G=>?_|(show F _ _ _;subst hF;refine aI.az fun F hF=>?_)|(show F _ _ _;subst hF)|refine ag aa rfl ?_)
 all_goals (try conv=>whnf)
 all_goals first
  | refine .inl ⟨_,_,_,_,_,_,_,_,_,_,_,_,rfl,?_,_,rfl⟩
  | refine .inr ⟨_,_,_,_,_,_,_,_,_,_,_,rfl,?_,_,rfl,rfl (a:=some (ai.cells ((iy ⟨0,0,65535,65535⟩).map .lit) oA))⟩
 all_goals clear k1 k2 h
 all_goals simp_all
 all_goals (try first|omega|intro _|refine ⟨by omega,?_⟩)
 all_goals (repeat' split)
 all_goals first|rfl|omega
theorem aj.aai{P:Program}{f:Nat}{args:List AV}{H:List ai}{K' K:AV->List ai->Prop}(c:aj P [] f args H K')
  (hk:∀v H',K' v H'->K v H'\/∃(HQ:List AV->AV) (cv:Array Value->Value) (_:∀γ l x,aw γ (HQ l) x↔∃a:Array Value,x=cv a/\aG γ l a.toList) (l1 l2:List AV) (o n:Nat) (cap:pe) (xs:List Value) (e:TypeId),v=HQ (l1++.slice o 0 n cap::l2)/\0<n/\H'[o]?=some (.cells (xs.map .lit) e)/\(∀u∈l1++l2,AQ o u)/\∀b off m,K (HQ (l1++.lit (.slice (some ⟨b,off,none⟩) n m)::l2)) (H'.set o (.res (iP ⟨b,off,none⟩ xs)))):aj P [] f args H K:=⟨fun F γ w ys hR cE cK qp=>by
 obtain ⟨c1,c2⟩:=c.out F γ w ys hR cE cK qp;refine ⟨c1,fun R fx=>c2 R fun v H' ay x w' k1 k2 k3=>?_⟩;rcases hk v H' k1 with h|⟨HQ,cv,IA,l1,l2,o,n,cap,xs,e,rfl,hn,ho,oT,h⟩
 ·exact fx v H' ay x w' h k2 k3
 ·obtain ⟨a,rfl,k4⟩:=(IA _ _ _).1 k2;obtain ⟨x1,x2,hx,q1,q2⟩:=mG.1 k4;obtain ⟨y,x3,rfl,q3,q4⟩:=q2;simp only[aw] at q3;obtain ⟨ad,m,rfl,dO,NT,_⟩:=q3;have dO:=dO.resolve_left (by omega);have si:o<H'.length:=de ho;have DA:ay o≠none:=k3.pl o si (by simp);have aP:∃p,ay o=some (some p):=by
   cases hg:ay o with
   | none=>exact absurd hg DA
   | some q=>
     cases q with
     | some p=>exact ⟨p,rfl⟩
     | none=>
       have h1:=k3.rel.gone o hg;rw[aZ k3.rel.aY] at h1;rw[ho] at h1;cases h1
  obtain ⟨p,bX⟩:=aP;unfold gY at dO;rw[bX] at dO;simp only[Nat.add_zero] at dO;subst dO;obtain ⟨h1,h2,h3⟩:=vE k3.rel k3.rs bX (.inr ho);have g1:∀i,i≠o->(gh ay o none) i=ay i:=fun i h=>ck _ _ h;refine fx _ _ _ _ w' (h _ _ m) ((IA _ _ _).2 ⟨_,rfl,mG.2 ⟨x1,_,hx,oM g1 (fun u hu=>oT u (by simp[hu])) q1,_,_,rfl,aS _ _,oM g1 (fun u hu=>oT u (by simp[hu])) q4⟩⟩) ⟨h1,k3.step.trans h3,fun q hq _=>?_,h2⟩;by_cases e:q=o
  ·rw[e,bI];simp
  ·rw[ck _ _ e];exact k3.pl q (by simpa using hq) (by simp)⟩
theorem Ns{e l c:Nat}{γ:aT}{u:List AV}{x:Value}:aw γ (.tuple [.agg u,.agg [iA e,iA l,iA c]]) x↔∃a:Array Value,x=.tuple #[.agg a,.agg #[.int .i64 e,.int .i64 l,.int .i64 c]]/\aG γ u a.toList:=by
 constructor
 ·rintro ⟨a,rfl,y,ys,h1,⟨b,rfl,h2⟩,z,zs,rfl,⟨d,rfl,p,ps,h3,h4,q,qs,rfl,h5,r,rs,rfl,h6,rfl⟩,rfl⟩;rw[iA,au] at h4 h5 h6;subst h4 h5 h6;refine ⟨b,?_,h2⟩;rw[show a=a.toList.toArray by simp,h1,show d=d.toList.toArray by simp,h3]
 ·rintro ⟨a,rfl,h⟩;exact ⟨_,rfl,_,_,rfl,⟨_,rfl,h⟩,_,_,rfl,⟨_,rfl,_,_,rfl,aS _ _,_,_,rfl,aS _ _,_,_,rfl,aS _ _,rfl⟩,rfl⟩
theorem UN{R:aC}{A:Option Addr}{m c rules boxes:Nat}{ds:List Dv}{d:Dv}(h:qM R A m ds)(hb:boxes<=1000000):CP [] 99 [.lit (.slice A ds.length c),.agg (dA d.x d.v),iA rules,iA boxes] [.res R] (SG R (jU ds d.x rules boxes)):=by
 refine aj.aai (K':=fun v H'=>SG R (jU ds d.x rules boxes) v H'\/V4 R (jU ds d.x rules boxes) v H') ?_ ?_
 ·cases ha:d.x.wh.any
  ·exact Ov h hb ha
  ·exact Lr h hb ha
 ·rintro v H' (k|⟨k,ro,lo,hi,la,zo,e,l,c,j,xs,rfl,ho,G,rfl,hj⟩)
  ·exact .inl k
  ·refine .inr ⟨fun u=>.tuple [.agg u,.agg [iA e,iA l,iA c]],fun a=>.tuple #[.agg a,.agg #[.int .i64 e,.int .i64 l,.int .i64 c]],fun _ _ _=>Ns,[iA k,iA ro,iA lo,iA hi,iA la],[iA zo],j+1,1,.k 1,xs,oA,rfl,Nat.one_pos,hj,fun u hu=>?_,fun b off m=>⟨_,_,_,_,_,_,_,_,_,_,_,_,rfl,ho,_,rfl⟩⟩;simp only[List.cons_append,List.nil_append,List.mem_cons,List.not_mem_nil,or_false] at hu;rcases hu with rfl|rfl|rfl|rfl|rfl|rfl;all_goals exact fun g _=>rfl
def C8(t:Tk):Prop:=(t.kind=1->ju t.text=true)/\(t.kind=3->t.n<=65535)
theorem LI{c:UInt8}{r:List UInt8}(h:(cH (c::r)).2=0):C8 (cH (c::r)).1:=by
 unfold C8;unfold cH at h ⊢;simp only[] at h ⊢;by_cases h1:isLet c=true
 ·rw[if_pos h1] at h ⊢;have hi:dj c=true:=by unfold dj;rw[h1];rfl
  rw[List.takeWhile_cons_of_pos hi] at h ⊢;simp only[] at h ⊢;refine ⟨fun hk=>?_,fun hk=>by split at hk<;>cases hk⟩;have hw:isWord (c::r.takeWhile dj)=false:=by
   cases hb:isWord (c::r.takeWhile dj)
   ·rfl
   ·rw[hb,if_pos rfl] at hk;cases hk
  have hl:(c::r.takeWhile dj).length<=16:=by
   by_cases hx:16<(c::r.takeWhile dj).length
   ·rw[if_pos hx] at h;cases h
   ·omega
  unfold ju;rw[hw,List.headD_cons,h1,decide_eq_true ⟨by simp,hl⟩,List.all_cons,hi];simp only[Bool.not_false,Bool.and_true,Bool.true_and,List.all_takeWhile]
 ·rw[if_neg h1] at h ⊢;by_cases h2:cx c=true
  ·rw[if_pos h2] at h ⊢;by_cases h3:(lC ((c::r).takeWhile cx)).2=true
   ·rw[if_pos h3] at h ⊢;refine ⟨fun hk=>(by cases hk),fun _=>?_⟩;show (lC ((c::r).takeWhile cx)).1<=65535
    unfold lC at h3 ⊢;by_cases h4:1<((c::r).takeWhile cx).length/\((c::r).takeWhile cx).headD 0=48
    ·rw[if_pos h4];exact Nat.zero_le _
    ·rw[if_neg h4] at h3 ⊢;exact dT1 h3
   ·rw[if_neg h3] at h;cases h
  ·rw[if_neg h2] at h ⊢;repeat' split
   all_goals exact ⟨fun hk=>(by cases hk),fun hk=>(by cases hk)⟩
theorem Fa:∀(k:Nat) (l:List UInt8) (p:Pt) (out:List Tk),(∀t∈out,C8 t)->∀t∈(jv k l p out).1,C8 t
 | 0,_,_,_,h=>h
 | k+1,l,p,out,h=>by
   unfold jv;simp only[];split
   ·exact h
   ·rename_i c r _;by_cases h0:(cH (c::r)).2=0
    ·rw[if_pos h0];refine Fa k _ _ _ fun t ht=>?_;rcases List.mem_append.1 ht with ht|ht
     ·exact h t ht
     ·rw[List.mem_singleton] at ht;subst ht;exact LI h0
    ·rw[if_neg h0];intro t ht;cases ht
theorem Sw(s:List UInt8):∀t∈(dP s).1,C8 t:=by
 unfold dP;split
 ·intro t ht;cases ht
 ·exact Fa _ _ _ _ (fun t ht=>by cases ht)
def Pr.Ha(p:Pr):Prop:=∀t∈p.l,C8 t
def Good(p q:Pr)(g:Prop):Prop:=p.Ha->q.Ha/\(q.bad=none->p.bad=none/\g)
theorem Good.then{p q r:Pr}{g h:Prop}(a:Good p q g)(b:Good q r h):Good p r (g/\h):=fun k=>
 ⟨(b (a k).1).1,fun n=>⟨((a k).2 ((b (a k).1).2 n).1).1,((a k).2 ((b (a k).1).2 n).1).2,((b (a k).1).2 n).2⟩⟩
theorem Good.imp{p q:Pr}{g h:Prop}(a:Good p q g)(i:g->h):Good p q h:=fun k=>⟨(a k).1,fun n=>⟨((a k).2 n).1,i ((a k).2 n).2⟩⟩
theorem Good.refl{p:Pr}:Good p p True:=fun k=>⟨k,fun n=>⟨n,tU⟩⟩
variable{e:Nat×Nat}{p:Pr}
theorem zG(h:p.Ha):(p.ba e).Ha:=by
 unfold Pr.ba;split
 ·exact h
 ·exact h
theorem iB:Good p p.on True:=fun k=>⟨fun t ht=>k t (List.mem_of_mem_tail ht),fun n=>⟨n,tU⟩⟩
theorem zx{g:Prop}:Good p (p.ba e) g:=fun k=>⟨zG k,fun n=>absurd n (je e p)⟩
theorem dR{s:List UInt8}:Good p (p.want e s) True:=by
 unfold Pr.want;split
 ·exact iB
 ·exact zx
theorem BI{k:Nat}:Good p (p.take e k).2 (p.kind k=true/\(p.take e k).1.kind=k/\C8 (p.take e k).1):=by
 unfold Pr.take;by_cases h:p.kind k=true
 ·rw[if_pos h];intro ho;refine ⟨(iB ho).1,fun n=>⟨n,h,?_⟩⟩;unfold Pr.kind at h;cases hl:p.l with
  | nil=>rw[hl] at h;simp at h
  | cons t l=>
    rw[hl] at h;simp only[Bool.and_eq_true,decide_eq_true_eq] at h;exact ⟨h.2,ho t (by rw[hl];exact List.mem_cons_self)⟩
 ·rw[if_neg h];exact zx
theorem oR:Good p (gN e p).2 (ju (gN e p).1=true):=BI.imp fun h=>h.2.2.1 h.2.1
theorem iz:Good p (fW e p).2 ((fW e p).1<=65535):=BI.imp fun h=>h.2.2.2 h.2.1
theorem Ci{s:List UInt8}(h:ju s=true):s≠[]:=fun e=>by
 subst e;cases h
theorem yn:Good p (iT e p).2 (ij (iT e p).1=true):=by
 unfold iT;simp only[];split
 ·exact iB.imp fun _=>rfl
 ·split
  ·refine oR.imp fun h=>?_;unfold ij;simp only[Bool.false_eq_true,if_false];rw[if_pos (Ci h),h];rfl
  ·refine iz.imp fun h=>?_;exact decide_eq_true h
theorem Io:Good p (gJ e p).2 (Dk (gJ e p).1=true):=by
 unfold gJ;simp only[];split
 ·exact iB.imp fun _=>rfl
 ·refine oR.imp fun h=>?_;unfold Dk ij;simp only[Bool.false_eq_true,if_false];rw[if_pos (Ci h),h,decide_eq_true (Ci h)];rfl
theorem Im:Good p (gI e p).2.2 ((gI e p).1<=65535/\(gI e p).2.1<=65535):=by
 unfold gI;simp only[];split
 ·exact iB.imp fun _=>⟨Nat.zero_le _,(by show 7<=65535;omega)⟩
 ·split
  ·exact (iz.then (iB.then iz)).imp fun h=>⟨h.1,h.2.2⟩
  ·exact iz.imp fun h=>⟨h,h⟩
def Bd(b:Bx):Prop:=b.x0<=65535/\b.y0<=65535/\b.x1<=65535/\b.y1<=65535
theorem Ed:Good p (hZ e p).2 (Bd (hZ e p).1):=by
 unfold hZ;exact (iz.then (iz.then (iz.then iz))).imp fun h=>h
theorem BH:∀(k:Nat) (p:Pr) (out:List Bx),Good p (fT e k p out).2 ((∀b∈out,Bd b)->out≠[]->(∀b∈(fT e k p out).1,Bd b)/\(fT e k p out).1≠[])
 | 0,_,_=>Good.refl.imp fun _ h h0=>⟨h,h0⟩
 | k+1,p,out=>by
   unfold fT;split
   ·refine (iB.then (Ed.then (BH k _ _))).imp fun h h1 h0=>h.2.2 (fun b hb=>?_) (by simp);rcases List.mem_append.1 hb with hb|hb
    ·exact h1 b hb
    ·rw[List.mem_singleton] at hb;subst hb;exact h.2.1
   ·exact Good.refl.imp fun _ h h0=>⟨h,h0⟩
theorem Il:Good p (bF e p).2 (pv (bF e p).1=true):=by
 unfold bF;refine (Ed.then (BH _ _ _)).imp fun h=>?_;have h:=h.2 (fun b hb=>by rw[List.mem_singleton] at hb;subst hb;exact h.1) (by simp);unfold pv;rw[decide_eq_true h.2,Bool.and_true,List.all_eq_true];exact fun b hb=>decide_eq_true (h.1 b hb)
theorem vu{d:Dc}:Good p (dJ e d p).2 (vT (dJ e d p).1=true/\(dJ e d p).1.name=d.name/\(dJ e d p).1.n=d.n/\(dJ e d p).1.boxes=d.boxes/\(dJ e d p).1.kind=d.kind):=by
 unfold dJ eS;simp only[];refine (((((((((dR (s:=cd)).then yn).then (dR (s:=rN))).then Im).then (dR (s:=bU))).then yn).then (dR (s:=GJ))).then Io).then ((dR (s:=ua)).then iz)).imp fun h=>⟨?_,tU,tU,tU,tU⟩;obtain ⟨⟨⟨⟨⟨⟨⟨⟨_,h1⟩,_⟩,h2⟩,_⟩,h3⟩,_⟩,h4⟩,_,h5⟩:=h;unfold vT;simp only[];rw[h1,h3,h4,decide_eq_true ⟨h2.1,h2.2,h5⟩];rfl
theorem Kw:Good p (br e p).2 (fV (br e p).1=true):=by
 unfold br;simp only[];split
 ·refine (iB.then (((oR.then (dR (s:=[61]))).then iz).then dR)).imp fun h=>?_;unfold fV;simp only[gf,true_or,if_true];rw[h.2.1.1.1];simp only[Bool.true_and,Bool.and_eq_true,decide_eq_true_eq];exact ⟨⟨⟨decide_eq_true h.2.1.2,rfl⟩,rfl⟩,rfl⟩
 split
 ·refine (iB.then (((oR.then (dR (s:=[61]))).then iz).then dR)).imp fun h=>?_;unfold fV;simp only[gf,or_true,if_true];rw[h.2.1.1.1];simp only[Bool.true_and,Bool.and_eq_true,decide_eq_true_eq];exact ⟨⟨⟨decide_eq_true h.2.1.2,rfl⟩,rfl⟩,rfl⟩
 split
 ·refine (iB.then (((oR.then (dR (s:=[61]))).then Il).then dR)).imp fun h=>?_;unfold fV;rw[if_neg (by simp[eT]),if_pos (show (eT e _ p.on).1.kind=3 from rfl)];simp only[eT];rw[h.2.1.1.1,h.2.1.2];rfl
 split
 ·refine (iB.then (vu.then dR)).imp fun h=>?_;obtain ⟨_,⟨h1,h2,h3,h4,h5⟩,_⟩:=h;unfold fV oj;rw[h5,h2,h3,h4,h1];rfl
 split
 ·refine (iB.then (vu.then dR)).imp fun h=>?_;obtain ⟨_,⟨h1,h2,h3,h4,h5⟩,_⟩:=h;unfold fV oj;rw[h5,h2,h3,h4,h1];rfl
 split
 ·refine (iB.then (((dR (s:=cd)).then yn).then dR)).imp fun h=>?_;unfold fV;rw[if_neg (by simp[eS]),if_neg (by simp[eS]),if_neg (by simp[eS]),if_pos (show (eS e _ p.on).1.kind=6 from rfl)];simp only[eS];rw[h.2.1.2];rfl
 ·exact fun k=>⟨(dR ((vu (zG k)).1)).1,fun n=>absurd n (by rw[yf (je e p),qa (je e p)];exact je e p)⟩
theorem Cm:∀(k:Nat) (p:Pr) (out:List Dc),p.Ha->(∀d∈out,fV d=true)->(iF e k p out).2.bad=none->∀d∈(iF e k p out).1,fV d=true
 | 0,_,_,_,h,_=>h
 | k+1,p,out,ho,h,hb=>by
   unfold iF at hb ⊢;split
   ·exact h
   ·rename_i h0;rw[if_neg h0] at hb;have hd:=Kw (e:=e) ho;have hn:(br e p).2.bad=none:=by
     cases hx:(br e p).2.bad with
     | none=>rfl
     | some b=>
       rw[nE e k _ _ (.inr (by rw[hx];simp))] at hb;rw[hb] at hx;cases hx
    refine Cm k _ _ hd.1 (fun d z6=>?_) hb;rcases List.mem_append.1 z6 with z6|z6
    ·exact h d z6
    ·rw[List.mem_singleton] at z6;subst z6;exact (hd.2 hn).2
theorem Cp{s:List UInt8}(h:(parse s).2.err=0):∀d∈(parse s).1,fV d=true:=by
 unfold parse at h ⊢;split
 ·intro d hd;cases hd
 ·rename_i h0;rw[if_neg h0] at h;simp only[] at h ⊢;split
  ·rename_i hb;exact Cm _ _ _ (Sw s) (fun d hd=>by cases hd) hb
  ·intro d hd;cases hd
end Go.Proofs.YtmbdghclhpboaaaGreat
namespace Go.Proofs.YtmbdghclhpboaaaGreat
open Ev Go.RowKit
theorem bg{n:Nat}(h:n<=65535){S:List Nat}{H:List ai}{K:AV->List ai->Prop}(k:K (bA true) H):CP S 179 [iA n] H K:=by
 refine aj.pure ?_ (fun _=>rfl) (fun _=>rfl) k;clear k;refine ag aa rfl ?_;repeat' ((conv=>whnf);first|with_reducible apply af<;>intro _  | refine ag aa rfl ?_)
 all_goals (try conv=>whnf)
 all_goals first|rfl|(exfalso;rename_i hx;exact dF1 hx (Int.ofNat_le.2 h))
theorem rE{s:List UInt8}(h:ju s=true){S:List Nat}{H:List ai}{K:AV->List ai->Prop}(k:K (bA true) H):CP S 178 [.lit (dw s)] H K:=by
 refine aj.pure ?_ (fun _=>rfl) (fun _=>rfl) k;clear k;unfold ju at h;simp only[Bool.and_eq_true,decide_eq_true_eq,Bool.not_eq_true'] at h;obtain ⟨⟨⟨⟨h0,z5⟩,hL⟩,hw⟩,ha⟩:=h;have hh:s.headD 0=s[0]:=by
  cases s with
  | nil=>simp at h0
  | cons c r=>rfl
 rw[hh] at hL;have ht:s.takeWhile dj=s:=by
  rw[List.all_eq_true] at ha;clear hL hw h0 z5 hh;induction s with
  | nil=>rfl
  | cons c r ih=>rw[List.takeWhile_cons_of_pos (ha c List.mem_cons_self),ih fun x hx=>ha x (List.mem_cons_of_mem _ hx)]
 have k1:∀{S:List Nat} {H:List ai} {K:AV->List ai->Prop},K (iA s.length) H->CP S 266 [.lit (dw s),.lit (.int .i64 0),.lit (.bool false)] H K:=fun {S H K} k=>RP (i:=0) (d:=false) (Nat.zero_le _) (by omega) (by
  show K (iA ((s.drop 0).takeWhile dj).length) H
  rw[List.drop_zero,ht];exact k)
 have k2:∀{S:List Nat} {H:List ai} {K:AV->List ai->Prop},K (bA true) H->CP S 265 [.lit (.int .u8 (s[0]).toNat)] H K:=fun k=>nF _ (hL ▸ k);have k3:∀{S:List Nat} {H:List ai} {K:AV->List ai->Prop},K (bA false) H->CP S 267 [.lit (dw s)] H K:=fun k=>Sb (hw ▸ k);refine ag aa rfl ?_;repeat' ((conv=>whnf);first|with_reducible apply af<;>intro _|refine al.eU (k:=0) rfl rfl rfl rfl rfl h0 ?_|refine k1 ?_|refine k2 ?_|refine k3 ?_|refine ag aa rfl ?_)
 all_goals (try conv=>whnf)
 all_goals first
  | rfl
  | (exfalso;rename_i hx;exact dF1 hx (Int.ofNat_lt.2 h0))
  | (exfalso;rename_i hx;exact dF1 hx (Int.ofNat_le.2 z5))
  | (exfalso;rename_i hx;exact absurd ((beq_self_eq_true (s.length:Int)).symm.trans hx) (by decide))
theorem cM{w:gw}(h:ku w=true){S:List Nat}{H:List ai}{K:AV->List ai->Prop}(k:K (bA true) H):CP S 181 [.agg (wA w)] H K:=by
 refine aj.pure ?_ (fun _=>rfl) (fun _=>rfl) k;clear k;obtain ⟨any,name,n,l,c⟩:=w;unfold ku at h;simp only[Bool.and_eq_true,decide_eq_true_eq,Bool.not_eq_true'] at h;obtain ⟨rfl,rfl,rfl⟩:=h;have hE:((⟨([]:List UInt8).toArray⟩:ByteArray).toList==(⟨#[]⟩:ByteArray).toList)=true:=o9.trans (decide_eq_true rfl);refine ag aa rfl ?_;repeat' ((conv=>whnf);first|rw[hE]|with_reducible apply af<;>intro _)
 all_goals (try conv=>whnf)
 all_goals rfl
theorem jA{w:gw}(h:ij w=true){S:List Nat}{H:List ai}{K:AV->List ai->Prop}(k:K (bA true) H):CP S 180 [.agg (wA w)] H K:=by
 refine aj.pure ?_ (fun _=>rfl) (fun _=>rfl) k;clear k;unfold ij at h;cases ha:w.any
 ·rw[ha] at h;by_cases hn:w.name=[]
  ·have hE:((⟨w.name.toArray⟩:ByteArray).toList==(⟨#[]⟩:ByteArray).toList)=true:=o9.trans (decide_eq_true hn);simp only[Bool.false_eq_true,if_false,hn,ne_eq,not_true_eq_false,decide_eq_true_eq] at h;refine ag aa rfl ?_;repeat' ((conv=>whnf);first|rw[ha]|rw[hE]|with_reducible apply af<;>intro _|refine bg h ?_)
   all_goals (try conv=>whnf)
   all_goals rfl
  ·have hE:((⟨w.name.toArray⟩:ByteArray).toList==(⟨#[]⟩:ByteArray).toList)=false:=o9.trans (decide_eq_false hn);simp only[Bool.false_eq_true,if_false,hn,ne_eq,not_false_eq_true,if_true,Bool.and_eq_true,decide_eq_true_eq] at h;have hz:((w.n:Int)==0)=true:=Kf.trans (decide_eq_true h.1);refine ag aa rfl ?_;repeat' ((conv=>whnf);first|rw[ha]|rw[hE]|rw[hz]|with_reducible apply af<;>intro _|refine rE h.2 ?_)
   all_goals (try conv=>whnf)
   all_goals first
    | rfl
    | (exfalso;rename_i hx;exact absurd (hz.symm.trans hx) (by decide))
 ·rw[ha] at h;simp only[if_true,decide_eq_true_eq] at h;have hE:((⟨w.name.toArray⟩:ByteArray).toList==(⟨#[]⟩:ByteArray).toList)=true:=o9.trans (decide_eq_true h.1);have hz:((w.n:Int)==0)=true:=Kf.trans (decide_eq_true h.2);refine ag aa rfl ?_;repeat' ((conv=>whnf);first|rw[ha]|rw[hE]|rw[hz]|with_reducible apply af<;>intro _)
  all_goals (try conv=>whnf)
  all_goals first
   | rfl
   | (exfalso;rename_i hx;exact absurd (hz.symm.trans hx) (by decide))
theorem RK{R:aC}{d:Dc}{A:Option Addr}{m:Nat}(h:sc R A d.boxes)(hl:d.boxes.length<=1000000)(hk:d.kind=1)(hn:ju d.name=true)(l1:d.n<=65535)(hb:d.boxes=[])(z1:ku d.role=true)(z2:ku d.label=true)(z3:ku d.wh=true)(e1:d.lo=0)(e2:d.hi=0)(e3:d.bV=0):CP [] 98 [.agg (dA d (.slice A d.boxes.length m))] [.res R] (lf (bA true) [.res R]):=by
 obtain ⟨kind,name,n,boxes,role,lo,hi,label,wh,bV,line,aX⟩:=d;simp only[] at *;subst hk e1 e2 e3;have h0:¬decide ((boxes.length:Int)>0)=true:=by rw[hb];decide
 have iE:∀b∈boxes,Bd b:=by rw[hb];intro b hb;cases hb
 refine ag aa rfl ?_;refine eX.of rfl rfl ?_;refine aI.az fun F hF=>?_;repeat' ((conv=>whnf);first|with_reducible apply af<;>intro _|(exfalso;exact h0 (by assumption))|refine cM z1 ?_|refine cM z2 ?_|refine cM z3 ?_|refine jA z1 ?_|refine jA z2 ?_|refine jA z3 ?_|refine rE hn ?_|refine bg l1 ?_|refine bg l2 ?_|refine bg l3 ?_|refine bg l4 ?_|refine bg h4.1 ?_|refine bg h4.2.1 ?_|refine bg h4.2.2.1 ?_|refine bg h4.2.2.2 ?_|exact bT hq (by assumption)|exact cF hq (by assumption)|refine al.bC aa rfl rfl rfl rfl rfl hq ?_|refine al.aR (i:=0) (v:=.agg ((iy boxes[k]).map .lit)) rfl (fun w S hR=>bu w S hR k hq) rfl rfl ?_|(refine aV aa rfl (fun k:Nat=>[(1,.ptr 1 0),(3,bA true),(4,bA true),(5,bA true),(6,iA (k:Nat))]) (fun _=>[.res R,.cells (dA ⟨1,name,n,boxes,role,0,0,label,wh,0,line,aX⟩ (.slice A boxes.length m)) jd]) (fun k=>k<=boxes.length) (fun k=>boxes.length - k) 0 (Nat.zero_le _) [0,1] ⟨rfl,⟨rr,rr,rr,rr,rr,tU⟩,⟨ko,⟨_,rfl,rfl⟩,tU⟩⟩ ?_;rintro k KL;by_cases hq:k<boxes.length;obtain ⟨a,rfl,bu⟩:=h.rd.at hq;have h4:=iE _ (List.getElem_mem hq))|(show F _ _ _;subst hF;refine aI.az fun F hF=>?_)|(show F _ _ _;subst hF)|refine ag aa rfl ?_)
 all_goals (try conv=>whnf)
 all_goals first
  | exact ⟨rfl,_,rfl⟩
  | exact ⟨k+1,[0,1],⟨hq,Nat.sub_lt_sub_left hq (Nat.lt_succ_self _)⟩,rfl,⟨rr,rr,rr,rr,⟨rfl,ax rfl (ak (by omega) (by omega))⟩,tU⟩,⟨ko,⟨_,rfl,rfl⟩,tU⟩⟩
  | exact bT hq (by assumption)
  | exact cF hq (by assumption)
theorem RL{R:aC}{d:Dc}{A:Option Addr}{m:Nat}(h:sc R A d.boxes)(hl:d.boxes.length<=1000000)(hk:d.kind=2)(hn:ju d.name=true)(l1:d.n<=65535)(hb:d.boxes=[])(z1:ku d.role=true)(z2:ku d.label=true)(z3:ku d.wh=true)(e1:d.lo=0)(e2:d.hi=0)(e3:d.bV=0):CP [] 98 [.agg (dA d (.slice A d.boxes.length m))] [.res R] (lf (bA true) [.res R]):=by
 obtain ⟨kind,name,n,boxes,role,lo,hi,label,wh,bV,line,aX⟩:=d;simp only[] at *;subst hk e1 e2 e3;have h0:¬decide ((boxes.length:Int)>0)=true:=by rw[hb];decide
 have iE:∀b∈boxes,Bd b:=by rw[hb];intro b hb;cases hb
 refine ag aa rfl ?_;refine eX.of rfl rfl ?_;refine aI.az fun F hF=>?_;repeat' ((conv=>whnf);first|with_reducible apply af<;>intro _|(exfalso;exact h0 (by assumption))|refine cM z1 ?_|refine cM z2 ?_|refine cM z3 ?_|refine jA z1 ?_|refine jA z2 ?_|refine jA z3 ?_|refine rE hn ?_|refine bg l1 ?_|refine bg l2 ?_|refine bg l3 ?_|refine bg l4 ?_|refine bg h4.1 ?_|refine bg h4.2.1 ?_|refine bg h4.2.2.1 ?_|refine bg h4.2.2.2 ?_|exact bT hq (by assumption)|exact cF hq (by assumption)|refine al.bC aa rfl rfl rfl rfl rfl hq ?_|refine al.aR (i:=0) (v:=.agg ((iy boxes[k]).map .lit)) rfl (fun w S hR=>bu w S hR k hq) rfl rfl ?_|(refine aV aa rfl (fun k:Nat=>[(1,.ptr 1 0),(3,bA true),(4,bA true),(5,bA true),(6,iA (k:Nat))]) (fun _=>[.res R,.cells (dA ⟨2,name,n,boxes,role,0,0,label,wh,0,line,aX⟩ (.slice A boxes.length m)) jd]) (fun k=>k<=boxes.length) (fun k=>boxes.length - k) 0 (Nat.zero_le _) [0,1] ⟨rfl,⟨rr,rr,rr,rr,rr,tU⟩,⟨ko,⟨_,rfl,rfl⟩,tU⟩⟩ ?_;rintro k KL;by_cases hq:k<boxes.length;obtain ⟨a,rfl,bu⟩:=h.rd.at hq;have h4:=iE _ (List.getElem_mem hq))|(show F _ _ _;subst hF;refine aI.az fun F hF=>?_)|(show F _ _ _;subst hF)|refine ag aa rfl ?_)
 all_goals (try conv=>whnf)
 all_goals first
  | exact ⟨rfl,_,rfl⟩
  | exact ⟨k+1,[0,1],⟨hq,Nat.sub_lt_sub_left hq (Nat.lt_succ_self _)⟩,rfl,⟨rr,rr,rr,rr,⟨rfl,ax rfl (ak (by omega) (by omega))⟩,tU⟩,⟨ko,⟨_,rfl,rfl⟩,tU⟩⟩
  | exact bT hq (by assumption)
  | exact cF hq (by assumption)
theorem RM{R:aC}{d:Dc}{A:Option Addr}{m:Nat}(h:sc R A d.boxes)(hl:d.boxes.length<=1000000)(hk:d.kind=3)(hn:ju d.name=true)(e4:d.n=0)(hb:0<d.boxes.length)(iE:∀b∈d.boxes,Bd b)(z1:ku d.role=true)(z2:ku d.label=true)(z3:ku d.wh=true)(e1:d.lo=0)(e2:d.hi=0)(e3:d.bV=0):CP [] 98 [.agg (dA d (.slice A d.boxes.length m))] [.res R] (lf (bA true) [.res R]):=by
 obtain ⟨kind,name,n,boxes,role,lo,hi,label,wh,bV,line,aX⟩:=d;simp only[] at *;subst hk e1 e2 e3 e4;have h0:¬decide ((boxes.length:Int)>0)=false:=fun h=>dF1 h (Int.ofNat_lt.2 hb);refine ag aa rfl ?_;refine eX.of rfl rfl ?_;refine aI.az fun F hF=>?_;repeat' ((conv=>whnf);first|with_reducible apply af<;>intro _|(exfalso;exact h0 (by assumption))|refine cM z1 ?_|refine cM z2 ?_|refine cM z3 ?_|refine jA z1 ?_|refine jA z2 ?_|refine jA z3 ?_|refine rE hn ?_|refine bg l1 ?_|refine bg l2 ?_|refine bg l3 ?_|refine bg l4 ?_|refine bg h4.1 ?_|refine bg h4.2.1 ?_|refine bg h4.2.2.1 ?_|refine bg h4.2.2.2 ?_|exact bT hq (by assumption)|exact cF hq (by assumption)|refine al.bC aa rfl rfl rfl rfl rfl hq ?_|refine al.aR (i:=0) (v:=.agg ((iy boxes[k]).map .lit)) rfl (fun w S hR=>bu w S hR k hq) rfl rfl ?_|(refine aV aa rfl (fun k:Nat=>[(1,.ptr 1 0),(3,bA true),(4,bA true),(5,bA true),(6,iA (k:Nat))]) (fun _=>[.res R,.cells (dA ⟨3,name,0,boxes,role,0,0,label,wh,0,line,aX⟩ (.slice A boxes.length m)) jd]) (fun k=>k<=boxes.length) (fun k=>boxes.length - k) 0 (Nat.zero_le _) [0,1] ⟨rfl,⟨rr,rr,rr,rr,rr,tU⟩,⟨ko,⟨_,rfl,rfl⟩,tU⟩⟩ ?_;rintro k KL;by_cases hq:k<boxes.length;obtain ⟨a,rfl,bu⟩:=h.rd.at hq;have h4:=iE _ (List.getElem_mem hq))|(show F _ _ _;subst hF;refine aI.az fun F hF=>?_)|(show F _ _ _;subst hF)|refine ag aa rfl ?_)
 all_goals (try conv=>whnf)
 all_goals first
  | exact ⟨rfl,_,rfl⟩
  | exact ⟨k+1,[0,1],⟨hq,Nat.sub_lt_sub_left hq (Nat.lt_succ_self _)⟩,rfl,⟨rr,rr,rr,rr,⟨rfl,ax rfl (ak (by omega) (by omega))⟩,tU⟩,⟨ko,⟨_,rfl,rfl⟩,tU⟩⟩
  | exact bT hq (by assumption)
  | exact cF hq (by assumption)
theorem Ju{R:aC}{d:Dc}{A:Option Addr}{m:Nat}(h:sc R A d.boxes)(hl:d.boxes.length<=1000000)(hk:d.kind=4)(e4:d.n=0)(e5:d.name=[])(hb:d.boxes=[])(z1:ij d.role=true)(z2:ij d.label=true)(z3:ij d.wh=true)(l1:d.lo<=65535)(l2:d.hi<=65535)(l3:d.bV<=65535)(ha:d.wh.any=true):CP [] 98 [.agg (dA d (.slice A d.boxes.length m))] [.res R] (lf (bA true) [.res R]):=by
 obtain ⟨kind,name,n,boxes,role,lo,hi,label,wh,bV,line,aX⟩:=d;obtain ⟨Sz,rP,wn,wl,wc⟩:=wh;simp only[] at *;subst hk e4 ha;have h0:¬decide ((boxes.length:Int)>0)=true:=by rw[hb];decide
 have iE:∀b∈boxes,Bd b:=by rw[hb];intro b hb;cases hb
 have hE:((⟨name.toArray⟩:ByteArray).toList==(⟨#[]⟩:ByteArray).toList)=true:=o9.trans (decide_eq_true e5);refine ag aa rfl ?_;refine eX.of rfl rfl ?_;refine aI.az fun F hF=>?_;repeat' ((conv=>whnf);first|rw[hE]|with_reducible apply af<;>intro _|(exfalso;exact h0 (by assumption))|refine cM z1 ?_|refine cM z2 ?_|refine cM z3 ?_|refine jA z1 ?_|refine jA z2 ?_|refine jA z3 ?_|refine rE hn ?_|refine bg l1 ?_|refine bg l2 ?_|refine bg l3 ?_|refine bg l4 ?_|refine bg h4.1 ?_|refine bg h4.2.1 ?_|refine bg h4.2.2.1 ?_|refine bg h4.2.2.2 ?_|exact bT hq (by assumption)|exact cF hq (by assumption)|refine al.bC aa rfl rfl rfl rfl rfl hq ?_|refine al.aR (i:=0) (v:=.agg ((iy boxes[k]).map .lit)) rfl (fun w S hR=>bu w S hR k hq) rfl rfl ?_|(refine aV aa rfl (fun k:Nat=>[(1,.ptr 1 0),(3,bA true),(4,bA true),(5,bA true),(6,iA (k:Nat))]) (fun _=>[.res R,.cells (dA ⟨4,name,0,boxes,role,lo,hi,label,⟨true,rP,wn,wl,wc⟩,bV,line,aX⟩ (.slice A boxes.length m)) jd]) (fun k=>k<=boxes.length) (fun k=>boxes.length - k) 0 (Nat.zero_le _) [0,1] ⟨rfl,⟨rr,rr,rr,rr,rr,tU⟩,⟨ko,⟨_,rfl,rfl⟩,tU⟩⟩ ?_;rintro k KL;by_cases hq:k<boxes.length;obtain ⟨a,rfl,bu⟩:=h.rd.at hq;have h4:=iE _ (List.getElem_mem hq))|(show F _ _ _;subst hF;refine aI.az fun F hF=>?_)|(show F _ _ _;subst hF)|refine ag aa rfl ?_)
 all_goals (try conv=>whnf)
 all_goals first
  | exact ⟨rfl,_,rfl⟩
  | exact ⟨k+1,[0,1],⟨hq,Nat.sub_lt_sub_left hq (Nat.lt_succ_self _)⟩,rfl,⟨rr,rr,rr,rr,⟨rfl,ax rfl (ak (by omega) (by omega))⟩,tU⟩,⟨ko,⟨_,rfl,rfl⟩,tU⟩⟩
  | exact bT hq (by assumption)
  | exact cF hq (by assumption)
theorem Lp{R:aC}{d:Dc}{A:Option Addr}{m:Nat}(h:sc R A d.boxes)(hl:d.boxes.length<=1000000)(hk:d.kind=4)(e4:d.n=0)(e5:d.name=[])(hb:d.boxes=[])(z1:ij d.role=true)(z2:ij d.label=true)(z3:ij d.wh=true)(l1:d.lo<=65535)(l2:d.hi<=65535)(l3:d.bV<=65535)(ha:d.wh.any=false)(e6:d.wh.name≠[]):CP [] 98 [.agg (dA d (.slice A d.boxes.length m))] [.res R] (lf (bA true) [.res R]):=by
 obtain ⟨kind,name,n,boxes,role,lo,hi,label,wh,bV,line,aX⟩:=d;obtain ⟨Sz,rP,wn,wl,wc⟩:=wh;simp only[] at *;subst hk e4 ha;have h0:¬decide ((boxes.length:Int)>0)=true:=by rw[hb];decide
 have iE:∀b∈boxes,Bd b:=by rw[hb];intro b hb;cases hb
 have hE:((⟨name.toArray⟩:ByteArray).toList==(⟨#[]⟩:ByteArray).toList)=true:=o9.trans (decide_eq_true e5);have hV:((⟨rP.toArray⟩:ByteArray).toList==(⟨#[]⟩:ByteArray).toList)=false:=o9.trans (decide_eq_false e6);refine ag aa rfl ?_;refine eX.of rfl rfl ?_;refine aI.az fun F hF=>?_;repeat' ((conv=>whnf);first|rw[hE]|rw[hV]|with_reducible apply af<;>intro _|(exfalso;exact h0 (by assumption))|refine cM z1 ?_|refine cM z2 ?_|refine cM z3 ?_|refine jA z1 ?_|refine jA z2 ?_|refine jA z3 ?_|refine rE hn ?_|refine bg l1 ?_|refine bg l2 ?_|refine bg l3 ?_|refine bg l4 ?_|refine bg h4.1 ?_|refine bg h4.2.1 ?_|refine bg h4.2.2.1 ?_|refine bg h4.2.2.2 ?_|exact bT hq (by assumption)|exact cF hq (by assumption)|refine al.bC aa rfl rfl rfl rfl rfl hq ?_|refine al.aR (i:=0) (v:=.agg ((iy boxes[k]).map .lit)) rfl (fun w S hR=>bu w S hR k hq) rfl rfl ?_|(refine aV aa rfl (fun k:Nat=>[(1,.ptr 1 0),(3,bA true),(4,bA true),(5,bA true),(6,iA (k:Nat))]) (fun _=>[.res R,.cells (dA ⟨4,name,0,boxes,role,lo,hi,label,⟨false,rP,wn,wl,wc⟩,bV,line,aX⟩ (.slice A boxes.length m)) jd]) (fun k=>k<=boxes.length) (fun k=>boxes.length - k) 0 (Nat.zero_le _) [0,1] ⟨rfl,⟨rr,rr,rr,rr,rr,tU⟩,⟨ko,⟨_,rfl,rfl⟩,tU⟩⟩ ?_;rintro k KL;by_cases hq:k<boxes.length;obtain ⟨a,rfl,bu⟩:=h.rd.at hq;have h4:=iE _ (List.getElem_mem hq))|(show F _ _ _;subst hF;refine aI.az fun F hF=>?_)|(show F _ _ _;subst hF)|refine ag aa rfl ?_)
 all_goals (try conv=>whnf)
 all_goals first
  | exact ⟨rfl,_,rfl⟩
  | exact ⟨k+1,[0,1],⟨hq,Nat.sub_lt_sub_left hq (Nat.lt_succ_self _)⟩,rfl,⟨rr,rr,rr,rr,⟨rfl,ax rfl (ak (by omega) (by omega))⟩,tU⟩,⟨ko,⟨_,rfl,rfl⟩,tU⟩⟩
  | exact bT hq (by assumption)
  | exact cF hq (by assumption)
theorem Jv{R:aC}{d:Dc}{A:Option Addr}{m:Nat}(h:sc R A d.boxes)(hl:d.boxes.length<=1000000)(hk:d.kind=5)(e4:d.n=0)(e5:d.name=[])(hb:d.boxes=[])(z1:ij d.role=true)(z2:ij d.label=true)(z3:ij d.wh=true)(l1:d.lo<=65535)(l2:d.hi<=65535)(l3:d.bV<=65535)(ha:d.wh.any=true):CP [] 98 [.agg (dA d (.slice A d.boxes.length m))] [.res R] (lf (bA true) [.res R]):=by
 obtain ⟨kind,name,n,boxes,role,lo,hi,label,wh,bV,line,aX⟩:=d;obtain ⟨Sz,rP,wn,wl,wc⟩:=wh;simp only[] at *;subst hk e4 ha;have h0:¬decide ((boxes.length:Int)>0)=true:=by rw[hb];decide
 have iE:∀b∈boxes,Bd b:=by rw[hb];intro b hb;cases hb
 have hE:((⟨name.toArray⟩:ByteArray).toList==(⟨#[]⟩:ByteArray).toList)=true:=o9.trans (decide_eq_true e5);refine ag aa rfl ?_;refine eX.of rfl rfl ?_;refine aI.az fun F hF=>?_;repeat' ((conv=>whnf);first|rw[hE]|with_reducible apply af<;>intro _|(exfalso;exact h0 (by assumption))|refine cM z1 ?_|refine cM z2 ?_|refine cM z3 ?_|refine jA z1 ?_|refine jA z2 ?_|refine jA z3 ?_|refine rE hn ?_|refine bg l1 ?_|refine bg l2 ?_|refine bg l3 ?_|refine bg l4 ?_|refine bg h4.1 ?_|refine bg h4.2.1 ?_|refine bg h4.2.2.1 ?_|refine bg h4.2.2.2 ?_|exact bT hq (by assumption)|exact cF hq (by assumption)|refine al.bC aa rfl rfl rfl rfl rfl hq ?_|refine al.aR (i:=0) (v:=.agg ((iy boxes[k]).map .lit)) rfl (fun w S hR=>bu w S hR k hq) rfl rfl ?_|(refine aV aa rfl (fun k:Nat=>[(1,.ptr 1 0),(3,bA true),(4,bA true),(5,bA true),(6,iA (k:Nat))]) (fun _=>[.res R,.cells (dA ⟨5,name,0,boxes,role,lo,hi,label,⟨true,rP,wn,wl,wc⟩,bV,line,aX⟩ (.slice A boxes.length m)) jd]) (fun k=>k<=boxes.length) (fun k=>boxes.length - k) 0 (Nat.zero_le _) [0,1] ⟨rfl,⟨rr,rr,rr,rr,rr,tU⟩,⟨ko,⟨_,rfl,rfl⟩,tU⟩⟩ ?_;rintro k KL;by_cases hq:k<boxes.length;obtain ⟨a,rfl,bu⟩:=h.rd.at hq;have h4:=iE _ (List.getElem_mem hq))|(show F _ _ _;subst hF;refine aI.az fun F hF=>?_)|(show F _ _ _;subst hF)|refine ag aa rfl ?_)
 all_goals (try conv=>whnf)
 all_goals first
  | exact ⟨rfl,_,rfl⟩
  | exact ⟨k+1,[0,1],⟨hq,Nat.sub_lt_sub_left hq (Nat.lt_succ_self _)⟩,rfl,⟨rr,rr,rr,rr,⟨rfl,ax rfl (ak (by omega) (by omega))⟩,tU⟩,⟨ko,⟨_,rfl,rfl⟩,tU⟩⟩
  | exact bT hq (by assumption)
  | exact cF hq (by assumption)
theorem Lq{R:aC}{d:Dc}{A:Option Addr}{m:Nat}(h:sc R A d.boxes)(hl:d.boxes.length<=1000000)(hk:d.kind=5)(e4:d.n=0)(e5:d.name=[])(hb:d.boxes=[])(z1:ij d.role=true)(z2:ij d.label=true)(z3:ij d.wh=true)(l1:d.lo<=65535)(l2:d.hi<=65535)(l3:d.bV<=65535)(ha:d.wh.any=false)(e6:d.wh.name≠[]):CP [] 98 [.agg (dA d (.slice A d.boxes.length m))] [.res R] (lf (bA true) [.res R]):=by
 obtain ⟨kind,name,n,boxes,role,lo,hi,label,wh,bV,line,aX⟩:=d;obtain ⟨Sz,rP,wn,wl,wc⟩:=wh;simp only[] at *;subst hk e4 ha;have h0:¬decide ((boxes.length:Int)>0)=true:=by rw[hb];decide
 have iE:∀b∈boxes,Bd b:=by rw[hb];intro b hb;cases hb
 have hE:((⟨name.toArray⟩:ByteArray).toList==(⟨#[]⟩:ByteArray).toList)=true:=o9.trans (decide_eq_true e5);have hV:((⟨rP.toArray⟩:ByteArray).toList==(⟨#[]⟩:ByteArray).toList)=false:=o9.trans (decide_eq_false e6);refine ag aa rfl ?_;refine eX.of rfl rfl ?_;refine aI.az fun F hF=>?_;repeat' ((conv=>whnf);first|rw[hE]|rw[hV]|with_reducible apply af<;>intro _|(exfalso;exact h0 (by assumption))|refine cM z1 ?_|refine cM z2 ?_|refine cM z3 ?_|refine jA z1 ?_|refine jA z2 ?_|refine jA z3 ?_|refine rE hn ?_|refine bg l1 ?_|refine bg l2 ?_|refine bg l3 ?_|refine bg l4 ?_|refine bg h4.1 ?_|refine bg h4.2.1 ?_|refine bg h4.2.2.1 ?_|refine bg h4.2.2.2 ?_|exact bT hq (by assumption)|exact cF hq (by assumption)|refine al.bC aa rfl rfl rfl rfl rfl hq ?_|refine al.aR (i:=0) (v:=.agg ((iy boxes[k]).map .lit)) rfl (fun w S hR=>bu w S hR k hq) rfl rfl ?_|(refine aV aa rfl (fun k:Nat=>[(1,.ptr 1 0),(3,bA true),(4,bA true),(5,bA true),(6,iA (k:Nat))]) (fun _=>[.res R,.cells (dA ⟨5,name,0,boxes,role,lo,hi,label,⟨false,rP,wn,wl,wc⟩,bV,line,aX⟩ (.slice A boxes.length m)) jd]) (fun k=>k<=boxes.length) (fun k=>boxes.length - k) 0 (Nat.zero_le _) [0,1] ⟨rfl,⟨rr,rr,rr,rr,rr,tU⟩,⟨ko,⟨_,rfl,rfl⟩,tU⟩⟩ ?_;rintro k KL;by_cases hq:k<boxes.length;obtain ⟨a,rfl,bu⟩:=h.rd.at hq;have h4:=iE _ (List.getElem_mem hq))|(show F _ _ _;subst hF;refine aI.az fun F hF=>?_)|(show F _ _ _;subst hF)|refine ag aa rfl ?_)
 all_goals (try conv=>whnf)
 all_goals first
  | exact ⟨rfl,_,rfl⟩
  | exact ⟨k+1,[0,1],⟨hq,Nat.sub_lt_sub_left hq (Nat.lt_succ_self _)⟩,rfl,⟨rr,rr,rr,rr,⟨rfl,ax rfl (ak (by omega) (by omega))⟩,tU⟩,⟨ko,⟨_,rfl,rfl⟩,tU⟩⟩
  | exact bT hq (by assumption)
  | exact cF hq (by assumption)
theorem RN{R:aC}{d:Dc}{A:Option Addr}{m:Nat}(h:sc R A d.boxes)(hl:d.boxes.length<=1000000)(hk:d.kind=6)(e4:d.n=0)(e5:d.name=[])(hb:d.boxes=[])(z1:ij d.role=true)(z2:ku d.label=true)(z3:ku d.wh=true)(e1:d.lo=0)(e2:d.hi=0)(e3:d.bV=0):CP [] 98 [.agg (dA d (.slice A d.boxes.length m))] [.res R] (lf (bA true) [.res R]):=by
 obtain ⟨kind,name,n,boxes,role,lo,hi,label,wh,bV,line,aX⟩:=d;simp only[] at *;subst hk e1 e2 e3 e4;have h0:¬decide ((boxes.length:Int)>0)=true:=by rw[hb];decide
 have iE:∀b∈boxes,Bd b:=by rw[hb];intro b hb;cases hb
 have hE:((⟨name.toArray⟩:ByteArray).toList==(⟨#[]⟩:ByteArray).toList)=true:=o9.trans (decide_eq_true e5);refine ag aa rfl ?_;refine eX.of rfl rfl ?_;refine aI.az fun F hF=>?_;repeat' ((conv=>whnf);first|rw[hE]|with_reducible apply af<;>intro _|(exfalso;exact h0 (by assumption))|refine cM z1 ?_|refine cM z2 ?_|refine cM z3 ?_|refine jA z1 ?_|refine jA z2 ?_|refine jA z3 ?_|refine rE hn ?_|refine bg l1 ?_|refine bg l2 ?_|refine bg l3 ?_|refine bg l4 ?_|refine bg h4.1 ?_|refine bg h4.2.1 ?_|refine bg h4.2.2.1 ?_|refine bg h4.2.2.2 ?_|exact bT hq (by assumption)|exact cF hq (by assumption)|refine al.bC aa rfl rfl rfl rfl rfl hq ?_|refine al.aR (i:=0) (v:=.agg ((iy boxes[k]).map .lit)) rfl (fun w S hR=>bu w S hR k hq) rfl rfl ?_|(refine aV aa rfl (fun k:Nat=>[(1,.ptr 1 0),(3,bA true),(4,bA true),(5,bA true),(6,iA (k:Nat))]) (fun _=>[.res R,.cells (dA ⟨6,name,0,boxes,role,0,0,label,wh,0,line,aX⟩ (.slice A boxes.length m)) jd]) (fun k=>k<=boxes.length) (fun k=>boxes.length - k) 0 (Nat.zero_le _) [0,1] ⟨rfl,⟨rr,rr,rr,rr,rr,tU⟩,⟨ko,⟨_,rfl,rfl⟩,tU⟩⟩ ?_;rintro k KL;by_cases hq:k<boxes.length;obtain ⟨a,rfl,bu⟩:=h.rd.at hq;have h4:=iE _ (List.getElem_mem hq))|(show F _ _ _;subst hF;refine aI.az fun F hF=>?_)|(show F _ _ _;subst hF)|refine ag aa rfl ?_)
 all_goals (try conv=>whnf)
 all_goals first
  | exact ⟨rfl,_,rfl⟩
  | exact ⟨k+1,[0,1],⟨hq,Nat.sub_lt_sub_left hq (Nat.lt_succ_self _)⟩,rfl,⟨rr,rr,rr,rr,⟨rfl,ax rfl (ak (by omega) (by omega))⟩,tU⟩,⟨ko,⟨_,rfl,rfl⟩,tU⟩⟩
  | exact bT hq (by assumption)
  | exact cF hq (by assumption)
