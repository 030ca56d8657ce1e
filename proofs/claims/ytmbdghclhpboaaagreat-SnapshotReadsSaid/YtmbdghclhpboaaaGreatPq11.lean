/- Part of the proof: EvW SyA. Conditions: as each states. -/
import Derived.Test.YtmbdghclhpboaaaGreatPq10
set_option linter.all false
namespace Go.Proofs.YtmbdghclhpboaaaGreat.Ev
def fR.ex:fR->Exit
 | .normal=>.normal
 | .exit id=>.exit id
 | .goto l=>.goto l
 | .ret=>.ret
theorem QO(P:Program):sz P QN:=fun f args σ v cJ h=>by simp[QN] at h
section
variable{F:dN}{P:Program}{E:Env}(hE:cL P E)
include hE
theorem Ji{cb:Cb}(nB:sz P cb){n id:Nat}(hn:n<=aY){ops:Array Oper}{draw:Bool}{t t':aE}{σ cJ:AS}(h:CG E cb n ops draw t σ=some (t',cJ)){γ:aT}{w:World}{a:Act}(hR:aU F γ σ w)(hT:cW γ n t a){Q:Exit->Act->World->Prop}
  (hQ:∀ay a' w',aU F ay cJ w'->cW ay n t' a'->Step γ σ ay cJ->Q .normal a' w'):(Code.region id ops draw).wp P Q a w:=by
 unfold CG at h;cases draw with
 | false=>
   simp only[] at h;refine wp_region ?_;have:=JB hE nB hn (Q:=Q) ops.toList 0 t t' σ cJ γ w a h (by simp) hR hT hQ;simpa using this
 | true=>
   simp only[] at h;split at h
   ·cases h
   ·rename_i hi;have hrows:=Jq hi;refine wp_region_any hE.wide ?_;refine Nv hE hrows hn nB (γ0:=γ) (σ0:=σ) hQ ops.size _ 0 _ [] t σ (fun _=>.no) γ _ a _ h ?_ ?_
    ·have qm:∀q,¬cA 0 (Array.replicate ops.size false) q:=fun q hq=>by have:=hq.1;rw[j9] at this;cases this
     have KI:∀j,(Array.replicate ops.size false).getD j false=false:=fun j=>by simp[Array.getElem?_replicate];split<;>rfl
     refine ⟨fun r hr=>⟨hr,j9 _⟩,fun r hr=>.inr hr,?_,fun r _ h=>(by rw[j9] at h;cases h),fun r _ h=>(by rw[KI] at h;cases h),(by simp),fun q _ hq=>absurd hq (qm q),fun q _ _ _ hq=>absurd hq (qm q),fun q _ hq=>absurd hq (qm q),hR.heap rfl,.refl _ _,⟨hT.size,hT.defers,fun i v hv=>hT.get i v ?_⟩⟩
     ·have:∀(l:List Oper) (i:Nat),(eE ops i l).Pairwise (fun r q=>r.i≠q.i)/\∀r∈eE ops i l,i<=r.i:=by
       intro l;induction l with
       | nil=>intro i;simp[eE]
       | cons o l ih=>
         intro i;obtain ⟨h1,h2⟩:=ih (i+1);simp only[eE,List.pairwise_cons];refine ⟨⟨fun r hr=>?_,h1⟩,fun r hr=>?_⟩
         ·have:=h2 r hr;show i≠r.i;omega
         ·rcases List.mem_cons.1 hr with rfl|hr
          ·exact Nat.le_refl i
          ·have:=h2 r hr;omega
      exact (this ops.toList 0).1
     ·rw[T.eW] at hv;split at hv
      ·cases hv
      ·exact hv
    ·exact Nat.le_trans List.count_le_length (by simp)
theorem Bu{cb:Cb}(nB:sz P cb){n:Nat}(hn:n<=aY):∀(f:Nat) (c:Code) (t:aE) (σ:AS) (e:fR) (t':aE) (cJ:AS),dV E cb n f c t σ=some (e,t',cJ) ->
  ∀(γ:aT) (w:World) (a:Act) (Q:Exit->Act->World->Prop),aU F γ σ w->cW γ n t a->(∀ay a' w',aU F ay cJ w'->cW ay n t' a'->Step γ σ ay cJ->Q e.ex a' w')->c.wp P Q a w:=by
 intro f;induction f using Nat.strongRecOn with
 | _ f ih=>
 intro c t σ e t' cJ h γ w a Q hR hT hQ;cases f with
 | zero=>simp[dV] at h
 | succ f=>
 have ih0:=ih f (Nat.lt_succ_self f);have nO:∀{b:Code} {t1:aE} {gL:AS} {e1:fR},dV E cb n f b t σ=some (e1,t1,gL)->∀{Q1:Exit->Act->World->Prop},(∀fD a1 w1,aU F fD gL w1->cW fD n t1 a1->Step γ σ fD gL->Q1 e1.ex a1 w1)->b.wp P Q1 a w:=
  fun hb _ hq=>ih0 _ _ _ _ _ _ hb γ w a _ hR hT hq
 cases c
 case skip=>
  simp only[dV,Option.some.injEq,Prod.mk.injEq] at h;obtain ⟨rfl,rfl,rfl⟩:=h;exact wp_skip (hQ γ a w hR hT (.refl _ _))
 case label l=>
  simp only[dV,Option.some.injEq,Prod.mk.injEq] at h;obtain ⟨rfl,rfl,rfl⟩:=h;exact wp_label (hQ γ a w hR hT (.refl _ _))
 case ret=>
  simp only[dV,Option.some.injEq,Prod.mk.injEq] at h;obtain ⟨rfl,rfl,rfl⟩:=h;exact wp_ret (hQ γ a w hR hT (.refl _ _))
 case exit id=>
  simp only[dV,Option.some.injEq,Prod.mk.injEq] at h;obtain ⟨rfl,rfl,rfl⟩:=h;exact wp_exit (hQ γ a w hR hT (.refl _ _))
 case goto l=>
  simp only[dV,Option.some.injEq,Prod.mk.injEq] at h;obtain ⟨rfl,rfl,rfl⟩:=h;exact wp_goto (hQ γ a w hR hT (.refl _ _))
 case region id ops draw=>
  simp only[dV] at h;obtain ⟨⟨t1,gL⟩,h1,h2⟩:=oM1.1 h;simp only[Prod.mk.injEq] at h2;obtain ⟨rfl,rfl,rfl⟩:=h2;exact Ji hE nB hn h1 hR hT hQ
 case seq x y=>
  simp only[dV] at h;refine wp_seq ?_;split at h
  ·rename_i t1 gL h1;exact nO h1 fun fD a1 w1 fJ mJ fM=>ih0 _ _ _ _ _ _ h fD w1 a1 _ fJ mJ fun hY a2 w2 Kx mK sg=>hQ hY a2 w2 Kx mK (fM.trans sg)
  ·rename_i aP;refine nO h fun fD a1 w1 fJ mJ fM=>?_;have:=hQ fD a1 w1 fJ mJ fM;cases e with
   | normal=>exact absurd h (aP _ _)
   | _=>exact this
 case cond c x y=>
  simp only[dV] at h;split at h
  ·rename_i hc;have:=hT.aL _ _ hc;rw[au] at this;exact wp_cond_true this (nO h hQ)
  ·rename_i hc;have:=hT.aL _ _ hc;rw[au] at this;exact wp_cond_false this (nO h hQ)
  ·cases h
 case block id b=>
  simp only[dV] at h;refine wp_block ?_;split at h
  ·rename_i yB t1 gL h1;refine nO h1 fun fD a1 w1 fJ mJ fM=>?_;simp only[fR.ex,Exit.inBlock];split at h<;>rename_i hb<;>simp only[Option.some.injEq,Prod.mk.injEq] at h<;>obtain ⟨rfl,rfl,rfl⟩:=h
   ·rw[if_pos (nQ1 hb)];exact hQ fD a1 w1 fJ mJ fM
   ·rw[if_neg (Nat.ne_of_beq_eq_false hb)];exact hQ fD a1 w1 fJ mJ fM
  ·rename_i aP;refine nO h fun fD a1 w1 fJ mJ fM=>?_;have:=hQ fD a1 w1 fJ mJ fM;cases e with
   | exit yB=>exact absurd h (aP _ _ _)
   | _=>exact this
 case loop b=>
  have key:∀(m:Nat),m<=f+1->∀(t:aE) (σ:AS),dV E cb n m (.loop b) t σ=some (e,t',cJ)->∀(fD:aT) (w:World) (a:Act),aU F fD σ w->cW fD n t a->(∀ay a' w',aU F ay cJ w'->cW ay n t' a'->Step fD σ ay cJ->Q e.ex a' w')->Code.rounds P b Q m a w:=by
   intro m;induction m with
   | zero=>intro _ t σ h;simp[dV] at h
   | succ m ihm=>
     intro hm t σ h fD w a hR hT hQ;simp only[dV] at h;rw[rounds_succ];split at h
     ·rename_i t1 gL h1;exact ih m (by omega) _ _ _ _ _ _ h1 fD w a _ hR hT fun hY a2 w2 Kx mK sg=>ihm (by omega) t1 gL h hY w2 a2 Kx mK fun Yw a3 w3 hR3 hT3 hS3=>hQ Yw a3 w3 hR3 hT3 (sg.trans hS3)
     ·rename_i aP;refine ih m (by omega) _ _ _ _ _ _ h fD w a _ hR hT fun hY a2 w2 Kx mK sg=>?_;have:=hQ hY a2 w2 Kx mK sg;cases e with
      | normal=>exact absurd h (aP _ _)
      | _=>exact this
  exact wp_loop_rounds (f+1) (key (f+1) (Nat.le_refl _) t σ h γ w a hR hT hQ)
 case scope b=>
  simp only[dV] at h;refine wp_scope_straight ?_;split at h
  ·cases h
  ·rename_i aP;refine nO h fun fD a1 w1 fJ mJ fM=>?_;have:=hQ fD a1 w1 fJ mJ fM;cases e with
   | goto l=>exact absurd h (aP _ _ _)
   | _=>exact this
 all_goals simp[dV] at h
omit hE in
theorem rF:∀(l:List AV) (k:Nat) (t:aE) (i:Nat),k+l.length<=aY->(setArgs k l t).get i=if k<=i/\i<k+l.length then l[i - k]? else t.get i
 | [],k,t,i,_=>by
   simp only[setArgs,List.length_nil];rw[if_neg (by omega)]
 | v::l,k,t,i,h=>by
   simp only[setArgs,List.length_cons] at h ⊢;rw[rF l (k+1) _ i (by omega),T.bN _ _ _ _ (by omega)];by_cases e:i=k
   ·subst e;rw[if_neg (by omega),if_pos rfl,if_pos (by omega)];simp
   ·by_cases hr:k+1<=i/\i<k+1+l.length
    ·rw[if_pos hr,if_pos (by omega)];rw[show i - k=(i - (k+1))+1 by omega,List.getElem?_cons_succ]
    ·rw[if_neg hr,if_neg e,if_neg (by omega)]
theorem Jm{γ:aT}{σ:AS}{w:World}{n:Nat}{t:aE}{a:Act}(hR:aU F γ σ w)(hT:cW γ n t a){r:ResultVar}{v:AV}(h:kY E t σ r=some v) :
  ∃x,((match r with|.tmp i=>pure (a.tmps.getD i undef)|.cell b ty=>do loadVar ty (<-asAddr (a.tmps.getD b undef)):Sem Value)).run P w=.ok x w/\aw γ v x:=by
 cases r with
 | tmp i=>
   simp only[kY] at h;obtain ⟨x,h1,h2⟩:=hT.get i v h;exact ⟨x,by simp[h1],h2⟩
 | cell b ty=>
   simp only[kY] at h;split at h
   ·rename_i o off hb;obtain ⟨x,h1,h2⟩:=hT.get b _ hb;simp only[aw] at h2;obtain ⟨ad,rfl,dO⟩:=h2;obtain ⟨y,h3,h4⟩:=IV hE hR.toRel h dO;exact ⟨y,by simp[h1,asAddr,h3],h4⟩
   ·cases h
theorem nq{γ:aT}{σ:AS}{w:World}{n:Nat}{t:aE}{a:Act}(hR:aU F γ σ w)(hT:cW γ n t a):∀{l:List ResultVar} {vs:List AV},eO (l.map (kY E t σ))=some vs ->
  ∃xs,(l.mapM (fun r=>match r with|.tmp i=>pure (a.tmps.getD i undef)|.cell b ty=>do loadVar ty (<-asAddr (a.tmps.getD b undef)):ResultVar->Sem Value)).run P w=.ok xs w/\aG γ vs xs
 | [],vs,h=>by
   simp only[List.map_nil,eO,Option.some.injEq] at h;subst h;exact ⟨[],by simp,by simp[aG]⟩
 | r::l,vs,h=>by
   simp only[List.map_cons] at h;cases hr:kY E t σ r with
   | none=>rw[hr] at h;simp[eO] at h
   | some v=>
     rw[hr] at h;simp only[eO] at h;cases hl:eO (l.map (kY E t σ)) with
     | none=>rw[hl] at h;simp at h
     | some vs'=>
       rw[hl] at h;simp only[Option.some.injEq] at h;subst h;obtain ⟨x,h1,h2⟩:=Jm hE hR hT hr;obtain ⟨xs,h3,h4⟩:=nq hR hT hl;refine ⟨x::xs,?_,?_⟩
       ·rw[List.mapM_cons,Sem.run_bind,h1,Result.andThen_ok,Sem.run_bind,h3,Result.andThen_ok];rfl
       ·simp only[aG];exact ⟨x,xs,rfl,h2,h4⟩
theorem tM{γ:aT}{σ:AS}{w:World}{n:Nat}{t:aE}{a:Act}(hR:aU F γ σ w)(hT:cW γ n t a){fn:Func}{v:AV}(h:oF E t σ fn.results.toList=some v) :
  ∃x,(results fn a.tmps).run P w=.ok x w/\aw γ v x:=by
 unfold oF at h;have dB:∀xs,(fn.results.toList.mapM (fun r=>match r with|.tmp i=>pure (a.tmps.getD i undef)|.cell b ty=>do loadVar ty (<-asAddr (a.tmps.getD b undef)):ResultVar->Sem Value)).run P w=.ok xs w ->
   (results fn a.tmps).run P w=.ok (if h:xs.toArray.size=1 then xs.toArray[0] else .tuple xs.toArray) w:=by
  intro xs hx;unfold results;rw[Sem.run_bind,Array.mapM_eq_mapM_toList,Sem.run_map];have yy:(fn.results.toList.mapM (fun|.tmp t=>pure (a.tmps.getD t undef)|.cell b t=>do loadVar t (<-asAddr (a.tmps.getD b undef)):ResultVar->Sem Value)).run P w=.ok xs w:=hx;erw [yy];rfl
 split at h
 ·rename_i u hl;simp only[Option.some.injEq] at h;subst h;obtain ⟨xs,h1,h2⟩:=nq hE hR hT hl;simp only[aG] at h2;obtain ⟨x,xs',rfl,hx,rfl⟩:=h2;exact ⟨x,by rw[dB _ h1];rfl,hx⟩
 ·rename_i hl;simp only[Option.some.injEq] at h;subst h;obtain ⟨xs,h1,h2⟩:=nq hE hR hT hl;simp only[aG] at h2;subst h2;exact ⟨_,dB _ h1,aS γ _⟩
 ·rename_i l ZT acz hl;simp only[Option.some.injEq] at h;subst h;obtain ⟨xs,h1,h2⟩:=nq hE hR hT hl;refine ⟨_,dB _ h1,?_⟩;have hlen:=bB h2;rw[dif_neg (by
   intro e;simp at e;rw[hlen] at e;obtain ⟨u,rfl⟩:=List.length_eq_one_iff.1 e;exact ZT u rfl)]
  simp only[aw];exact ⟨_,rfl,by simpa using h2⟩
 ·cases h
theorem vl{hv:Cb}(Qf:sz P hv):∀d,sz P (wQ E hv d)
 | 0=>fun f args σ v cJ h=>by simp[wQ] at h
 | d+1=>fun f args σ v cJ h F γ w xs hR gV=>by
   simp only[wQ] at h;cases hv:hv f args σ with
   | some r=>
     obtain ⟨u,τ⟩:=r;rw[hv] at h;simp only[Option.some.injEq,Prod.mk.injEq] at h;obtain ⟨rfl,rfl⟩:=h;exact Qf f args σ u τ hv F γ w xs hR gV
   | none=>
   rw[hv] at h;simp only[] at h;cases hf:E.fn f with
   | none=>rw[hf] at h;cases h
   | some fn=>
     rw[hf] at h;simp only[] at h;obtain ⟨BS,Ky⟩:=hE.fn f fn hf;refine ⟨Ky xs w,fun R fx=>?_⟩;cases hb:fn.body with
     | none=>rw[hb] at h;cases h
     | some c=>
       rw[hb] at h;simp only[] at h;split at h
       ·cases h
       ·rename_i hle;simp only[Bool.and_eq_true] at hle;have h1:=nB1 hle.1;have h2:=nB1 hle.2;have hlen:=bB gV;have jD:xs.size=args.length:=by simpa using hlen
        have fy:fn.ntmps<=aY:=by unfold aY;omega
        have hT:cW γ fn.ntmps (setArgs 0 args .e) { tmps:=xs++Array.replicate (fn.ntmps - xs.size) undef,defers:=[] }:=by
         refine ⟨by simp;omega,rfl,fun i u hu=>?_⟩;rw[rF _ _ _ _ (by omega)] at hu;split at hu
         ·rename_i hi;obtain ⟨x,h3,h4⟩:=dQ gV i u (by simpa using hu);refine ⟨x,?_,h4⟩;simp only[];rw[Array.getElem?_append_left (by omega)];simpa using h3
         ·simp[T.get] at hu
        refine calls_of_wp BS hb ?_;split at h
        ·rename_i t1 gL hc;obtain ⟨u,hu,Ab⟩:=oM1.1 h;simp only[Prod.mk.injEq] at Ab;obtain ⟨rfl,rfl⟩:=Ab;refine Bu hE (vl Qf d) fy _ _ _ _ _ _ _ hc γ w _ _ hR hT fun ay a' w' lj gz vx=>?_;obtain ⟨x,h3,h4⟩:=tM hE lj gz hu;exact ⟨gz.defers,x,h3,fx ay x w' h4 lj vx⟩
        ·rename_i t1 gL hc;obtain ⟨u,hu,Ab⟩:=oM1.1 h;simp only[Prod.mk.injEq] at Ab;obtain ⟨rfl,rfl⟩:=Ab;refine Bu hE (vl Qf d) fy _ _ _ _ _ _ _ hc γ w _ _ hR hT fun ay a' w' lj gz vx=>?_;obtain ⟨x,h3,h4⟩:=tM hE lj gz hu;exact ⟨gz.defers,x,h3,fx ay x w' h4 lj vx⟩
        ·cases h
end
abbrev brP(b:Bool)(X Y:Prop):Prop:=@Bool.rec (fun _=>Prop) Y X b
theorem af{b:Bool}{X Y:Prop}(h1:b=true->X)(h2:b=false->Y):@Bool.rec (fun _=>Prop) Y X b:=by cases b;exact h2 rfl;exact h1 rfl
def vw:ai->ai
 | .row xs e=>.cells (xs.map .lit) e
 | .res _=>.dead
 | ob=>ob
def DJ:Nat->List ai->T ai->T ai
 | _,[],t=>t
 | k,a::l,t=>DJ (k+1) l (t.put k (vw a))
def hp(H:List ai):AS:=⟨DJ 0 H .e,H.length⟩
def fl{α:Type}:List α->(List α->Prop)->Prop
 | [],K=>K []
 | a::l,K=>fl l (fun l'=>K (a::l'))
def p6{α:Type}:List α->α->(List α->Prop)->Prop
 | [],x,K=>K [x]
 | a::l,x,K=>p6 l x (fun l'=>K (a::l'))
def mz{α:Type}:List α->Nat->α->(List α->Prop)->Prop
 | [],_,_,K=>K []
 | a::l,i,x,K=>match i with
   | 0=>K (x::l)
   | i+1=>mz l i x (fun l=>K (a::l))
def Wr:ai->(ai->Prop)->Prop
 | .cells l e,K=>fl l (fun l'=>K (.cells l' e))
 | .map es c,K=>fl es (fun l'=>K (.map l' c))
 | ob,K=>K ob
def fv:AV->(AV->Prop)->Prop
 | .lit u,K=>match u with
   | .bool b=>brP b (K (.lit (.bool true))) (K (.lit (.bool false)))
   | .int k n=>K (.lit (.int k n))
   | .string s=>K (.lit (.string s))
   | u=>K (.lit u)
 | .agg l,K=>fl l (fun l=>K (.agg l))
 | .tuple l,K=>fl l (fun l=>K (.tuple l))
 | .ptr o off,K=>K (.ptr o off)
 | .slice o off len c,K=>K (.slice o off len c)
 | .map o,K=>K (.map o)
 | .func f a b,K=>K (.func f a b)
 | .iface t v,K=>K (.iface t v)
def oX(n:Nat)(K:Nat->Prop):Prop:=match n with
 | 0=>K 0
 | 1=>K 1
 | 2=>K 2
 | 3=>K 3
 | 4=>K 4
 | 5=>K 5
 | 6=>K 6
 | 7=>K 7
 | 8=>K 8
 | 9=>K 9
 | 10=>K 10
 | 11=>K 11
 | 12=>K 12
 | 13=>K 13
 | 14=>K 14
 | 15=>K 15
 | 16=>K 16
 | 17=>K 17
 | 18=>K 18
 | 19=>K 19
 | 20=>K 20
 | 21=>K 21
 | 22=>K 22
 | 23=>K 23
 | 24=>K 24
 | 25=>K 25
 | 26=>K 26
 | 27=>K 27
 | 28=>K 28
 | 29=>K 29
 | 30=>K 30
 | 31=>K 31
 | 32=>K 32
 | 33=>K 33
 | 34=>K 34
 | 35=>K 35
 | 36=>K 36
 | 37=>K 37
 | 38=>K 38
 | 39=>K 39
 | 40=>K 40
 | 41=>K 41
 | 42=>K 42
 | 43=>K 43
 | 44=>K 44
 | 45=>K 45
 | 46=>K 46
 | 47=>K 47
 | n=>K n
def qT{α:Type}:List α->Nat->Nat
 | [],n=>n
 | _::l,n=>qT l (n+1)
def J4{α:Type}:Nat->T α->Nat->α->(T α->Prop)->Prop
 | 0,t,_,_,K=>K t
 | f+1,.e,i,a,K=>match i with
   | 0=>K (.n (some a) .e .e)
   | i+1=>match Nat.beq (i % 2) 0 with
     | true=>J4 f .e (i / 2) a (fun l=>K (.n none l .e))
     | false=>J4 f .e (i / 2) a (fun r=>K (.n none .e r))
 | f+1,.n v l r,i,a,K=>match i with
   | 0=>K (.n (some a) l r)
   | i+1=>match Nat.beq (i % 2) 0 with
     | true=>J4 f l (i / 2) a (fun l=>K (.n v l r))
     | false=>J4 f r (i / 2) a (fun r=>K (.n v l r))
def r7(n:Nat)(d:Option Nat)(t:aE)(v:AV)(K:aE->Prop):Prop:=
 match d with
 | none=>K t
 | some d=>match Nat.blt d n with
   | true=>J4 21 t d v K
   | false=>False
theorem sN{α:Type}:∀(l:List α) (K:List α->Prop),fl l K=K l
 | [],_=>rfl
 | a::l,K=>sN l (fun l'=>K (a::l'))
theorem lF{α:Type}(x:α):∀(l:List α) (K:List α->Prop),p6 l x K=K (l++[x])
 | [],_=>rfl
 | a::l,K=>lF x l (fun l'=>K (a::l'))
theorem k9{α:Type}(x:α):∀(l:List α) (i:Nat) (K:List α->Prop),mz l i x K=K (l.set i x)
 | [],_,_=>rfl
 | _::_,0,_=>rfl
 | a::l,i+1,K=>k9 x l i (fun l'=>K (a::l'))
theorem SY(ob:ai)(K:ai->Prop):Wr ob K=K ob:=by
 cases ob<;>first|rfl|exact sN _ _
theorem sU{v:AV}{K:AV->Prop}(h:fv v K):K v:=by
 unfold fv at h;split at h
 ·split at h
  ·rename_i b;cases b<;>exact h
  ·exact h
  ·exact h
  ·exact h
 ·rwa [sN] at h
 ·rwa [sN] at h
 ·exact h
 ·exact h
 ·exact h
 ·exact h
 ·exact h
theorem jh(n:Nat)(K:Nat->Prop):oX n K=K n:=by
 unfold oX;split<;>rfl
theorem lQ{α:Type}:∀(l:List α) (n:Nat),qT l n=n+l.length
 | [],_=>rfl
 | _::l,n=>by simp only[qT,lQ l,List.length_cons];omega
theorem GQ{α:Type}(a:α):∀(f:Nat) (t:T α) (i:Nat) (K:T α->Prop),J4 f t i a K=K (T.set f t i a)
 | 0,_,_,_=>rfl
 | f+1,.e,i,K=>by
   cases i with
   | zero=>rfl
   | succ i=>
     simp only[J4,T.set];cases Nat.beq (i % 2) 0<;>exact GQ a f _ _ _
 | f+1,.n v l r,i,K=>by
   cases i with
   | zero=>rfl
   | succ i=>
     simp only[J4,T.set];cases Nat.beq (i % 2) 0<;>exact GQ a f _ _ _
theorem l8{n:Nat}{d:Option Nat}{t:aE}{v:AV}{K:aE->Prop}(h:r7 n d t v K):∃t',o3 n t d v=some t'/\K t':=by
 unfold r7 at h;unfold o3;split at h
 ·exact ⟨t,rfl,h⟩
 ·split at h
  ·rename_i hb;rw[GQ] at h;exact ⟨_,by simp only[hb];rfl,h⟩
  ·exact h.elim
theorem I4:∀(H:List ai) (k:Nat) (t:T ai) (o:Nat),k+H.length<=aY->(DJ k H t).get o=if k<=o/\o<k+H.length then (H[o - k]?).map vw else t.get o
 | [],k,t,o,_=>by rw[if_neg (by simp only[List.length_nil];omega)];rfl
 | a::H,k,t,o,h=>by
   simp only[List.length_cons] at h;simp only[DJ];rw[I4 H (k+1) _ o (by omega),T.bN _ _ _ _ (by omega)];by_cases e:o=k
   ·subst e;rw[if_neg (by omega),if_pos rfl,if_pos (by simp)];simp
   ·by_cases h1:k+1<=o/\o<k+1+H.length
    ·rw[if_pos h1,if_pos (by simp;omega),show o - k=(o - (k+1))+1 by omega,List.getElem?_cons_succ]
    ·rw[if_neg h1,if_neg e,if_neg (by simp;omega)]
theorem aZ{H:List ai}(h:H.length<=aY)(o:Nat):(hp H).heap.get o=(H[o]?).map vw:=by
 unfold hp;simp only[];rw[I4 H 0 .e o (by omega)];split
 ·simp
 ·rw[List.getElem?_eq_none (by omega)];rfl
structure zc(σ:AS)(H:List ai):Prop where
 next:σ.next=H.length
 get:∀o,σ.heap.get o=(H[o]?).map vw
theorem aU.congr{F:dN}{γ:aT}{σ τ:AS}{w:World}(h:aU F γ σ w)(hn:σ.next=τ.next)(hg:∀o,o<σ.next->τ.heap.get o=σ.heap.get o):aU F γ τ w:=by
 have hd:∀{o q},γ o=some q->o<σ.next:=fun {o q} hq=>by
  rcases Nat.lt_or_ge o σ.next with h1|h1
  ·exact h1
  ·rw[h.j6 o h1] at hq;cases hq
 refine ⟨⟨fun o ho=>h.j6 o (by omega),fun o p hp=>?_,fun o ho=>?_,h.inj,by have:=h.aY;omega⟩,fun o p hp=>?_,h.frame⟩
 ·rw[hg o (hd hp)];exact h.obj o p hp
 ·rw[hg o (hd ho)];exact h.gone o ho
 ·rw[hg o (hd hp)];exact h.live o p hp
theorem aU.J0{F:dN}{γ:aT}{σ:AS}{w:World}{H:List ai}(h:aU F γ σ w)(e:zc σ H):aU F γ (hp H) w:=
 h.congr e.next fun o ho=>by
  have hl:=h.aY;rw[aZ (by have:=e.next;omega)];exact (e.get o).symm
def aB:aC:=⟨fun _ S=>∀b,¬S b,fun h hb=>absurd hb (h _),fun h _=>h⟩
def iI:ai->aC
 | .res R=>R
 | _=>aB
def cz(H:List ai):List aC:=H.map iI
def bj(L M:List aC):Prop:=∀w T,bD L w T->∃T':Nat->Prop,(∀b,T' b->T b)/\bD M w T'
theorem bj.refl(L:List aC):bj L L:=fun _ T h=>⟨T,fun _ h=>h,h⟩
theorem bj.trans{L M N:List aC}(h:bj L M)(k:bj M N):bj L N:=fun w T ht=>by
 obtain ⟨T1,h1,h2⟩:=h w T ht;obtain ⟨T2,h3,h4⟩:=k w T1 h2;exact ⟨T2,fun b hb=>h1 b (h3 b hb),h4⟩
theorem bj.of_eq{L M:List aC}(h:L=M):bj L M:=h ▸ bj.refl L
theorem qd{H:List ai}{ob:ai}(h:iI ob=aB):bj (cz H) (cz (H++[ob])):=fun w T ht=>⟨T,fun _ h=>h,by
 unfold cz;rw[List.map_append];refine dK.2 ⟨T,fun _=>False,ht,⟨fun _=>False,fun _=>False,?_,fun _ h=>h,fun _ h _=>h,fun b=>by simp⟩,fun _ _ h=>h,fun b=>by simp⟩;rw[h];exact fun _ h=>h⟩
theorem qC{H:List ai}{o:Nat}{a ob:ai}(ho:H[o]?=some a)(h:iI ob=iI a):cz (H.set o ob)=cz H:=by
 unfold cz;rw[List.map_set,h];apply List.ext_getElem?;intro i;rw[List.getElem?_set];split
 ·rename_i e;subst e;rw[List.getElem?_map,ho];obtain ⟨hl,_⟩:=lE1.1 ho;simp[hl]
 ·rfl
structure Rs(F:dN)(γ:aT)(H:List ai)(w:World):Prop where
 out:∃T,bD (cz H) w T/\∀b,T b->¬F.fz b/\∀o p,γ o=some (some p)->p.block≠b
theorem Rs.Bs{F:dN}{γ:aT}{H H':List ai}{w:World}(h:Rs F γ H w)(e:bj (cz H) (cz H')):Rs F γ H' w:=by
 obtain ⟨T,h1,h2⟩:=h.out;obtain ⟨T',h3,h4⟩:=e w T h1;exact ⟨T',h4,fun b hb=>h2 b (h3 b hb)⟩
theorem tK{F:dN}{γ:aT}{σ:AS}{H:List ai}{w:World}(hR:aU F γ σ w)(hs:Rs F γ H w):∃F',aU F' γ σ w/\∀ay cJ w',aU F' ay cJ w'->aU F ay cJ w'/\∀H',bj (cz H) (cz H')->Rs F ay H' w':=by
 obtain ⟨T,h1,h2⟩:=hs.out;refine ⟨⟨w,fun b=>b<w.heap.size/\(F.fz b\/T b)⟩,⟨hR.toRel,hR.live,⟨rfl,rfl,rfl,Nat.le_refl _,fun b h=>h.1,fun b _=>rfl,fun o p hp h=>h.2.elim (hR.frame.own o p hp) (fun h=>(h2 _ h).2 o p hp rfl)⟩⟩,fun ay cJ w' lj=>?_⟩;have hF:=hR.frame;have hF':=lj.frame;have hb:∀b,F.fz b->b<w.heap.size:=fun b h=>Nat.lt_of_lt_of_le (hF.gE b h) hF.size;refine ⟨⟨lj.toRel,lj.live,⟨hF'.os.trans hF.os,hF'.tape.trans hF.tape,hF'.output.trans hF.output,Nat.le_trans hF.size hF'.size,hF.gE,fun b h=>(hF'.block b ⟨hb b h,.inl h⟩).trans (hF.block b h),fun o p hp h=>hF'.own o p hp ⟨hb _ h,.inl h⟩⟩⟩,fun H' e=>?_⟩;refine Rs.Bs ⟨T,iV h1 fun b hb=>hF'.block b ⟨jq h1 hb,.inr hb⟩,fun b hb=>⟨(h2 b hb).1,fun o p hp e=>hF'.own o p hp (by rw[e];exact ⟨jq h1 hb,.inr hb⟩)⟩⟩ e
structure Rl(F:dN)(γ:aT)(H:List ai)(w:World):Prop where
 rel:aU F γ (hp H) w
 pl:∀o,o<H.length->γ o≠none
 rs:Rs F γ H w
def Old(k:Nat)(γ ay:aT):Prop:=∀o,o<k->∀p,γ o=some p->ay o=some p\/ay o=some none
theorem Old.refl(k:Nat)(γ:aT):Old k γ γ:=fun _ _ _ h=>.inl h
theorem Old.trans{k:Nat}{a b c:aT}(h:Old k a b)(h':Old k b c):Old k a c:=fun o ho p hp=>by
 rcases h o ho p hp with h1|h1
 ·exact h' o ho p h1
 ·rcases h' o ho none h1 with h2|h2<;>exact .inr h2
theorem Old.AB{γ ay:aT}(h:Ext γ ay)(k:Nat):Old k γ ay:=fun o _ p hp=>h o p hp
structure GX(F:dN)(γ:aT)(S:List Nat)(H:List ai)(ay:aT)(H':List ai)(w':World):Prop where
 rel:aU F ay (hp H') w'
 step:Step γ (hp H) ay (hp H')
 pl:∀q,q<H'.length->q∉S->ay q≠none
 rs:Rs F ay H' w'
theorem GX.rl{F:dN}{γ ay:aT}{H H':List ai}{w':World}(h:GX F γ [] H ay H' w'):Rl F ay H' w':=⟨h.rel,fun q hq=>h.pl q hq (by simp),h.rs⟩
theorem Step.J0{γ ay:aT}{σ τ:AS}{H:List ai}(h:Step γ σ ay τ)(e:zc τ H)(hl:H.length<=aY):Step γ σ ay (hp H):=
 ⟨h.ext,h.new,by have:=h.le;have:=e.next;show σ.next<=H.length;omega,fun o ho hg=>by rw[aZ hl,<-e.get o];exact h.same o ho hg⟩
structure aj(P:Program)(S:List Nat)(f:Nat)(args:List AV)(H:List ai)(K:AV->List ai->Prop):Prop where
 out:∀(F:dN) (γ:aT) (w:World) (xs:Array Value),aU F γ (hp H) w->(∀o,o<H.length->o∉S->γ o≠none)->Rs F γ H w->aG γ args xs.toList ->
  (callFunc f xs).run P w=.ok (.enter f xs) w/\∀R:Ending->World->Prop,(∀v H' ay x w',K v H'->aw ay v x->GX F γ S H ay H' w'->R (.returned x) w')->Calls P f xs w R
abbrev oJ(P:Program)(f:Nat)(args:List AV)(H:List ai)(K:AV->List ai->Prop):Prop:=aj P [] f args H K
structure aM(P:Program)(n k:Nat)(c:Code)(t:aE)(H:List ai)(Q:fR->aE->List ai->Prop):Prop where
 out:∀(F:dN) (γ:aT) (w:World) (a:Act) (R:Exit->Act->World->Prop),Rl F γ H w->cW γ n t a ->
  (∀e t' H' ay a' w',Q e t' H'->Rl F ay H' w'->cW ay n t' a'->Old k γ ay->R e.ex a' w')->c.wp P R a w
section
variable(E:Env)
def rf(n:Nat)(v:AV)(next:Nat):Bool:=
 Nat.beq next n || (match v with
  | .slice o _ _ (.grown _)=>Nat.beq o n&&Nat.beq next (n+1)
  | .ptr o _=>Nat.beq o n&&Nat.beq next (n+1)
  | _=>false)
def Ja(P:Program)(S:List Nat)(H:List ai)(K:AV->List ai->Prop):Out->Prop
 | .pure v=>K v H
 | .read v=>K v H
 | .new ob k=>H.length<aY/\K (k.val H.length) (H++[ob])
 | .act v σ=>∃H',zc σ H'/\rf H.length v σ.next=true/\bj (cz H) (cz H')/\K v H'
 | .call f args=>aj P S f args H K
def tT(t:TypeId)(K:Nat->TypeDesc->Prop):Prop:=match E.ty t with
 | some ⟨⟨_,_,size,_,_,_,_,_,_,_⟩,bp,_,_⟩=>K size bp
 | none=>False
def Cq(t:TypeId)(cs:List AV)(off:Nat)(K:AV->Prop):Prop:=tT E t fun size bp=>match bQ bp with
 | true=>match Nat.ble (off+size) cs.length with
   | true=>fl ((cs.drop off).take size) (fun l=>K (.agg l))
   | false=>False
 | false=>match cs[off]? with
   | some v=>K v
   | none=>False
def Ax(t:TypeId)(f:Nat)(K:TypeId->Nat->Prop):Prop:=match E.ty t with
 | some r=>match r.bp with
   | .struct fs=>match fs.toList[f]? with
     | some ⟨_,type,offset,_,_,_,_⟩=>K type offset
     | none=>False
   | _=>False
 | none=>False
structure aO(n:Nat)(z:Int)(K:Nat->Prop):Prop where
 out:∃k:Nat,z=(k:Int)/\k<n/\K k
theorem aO.of{n k:Nat}{z:Int}{K:Nat->Prop}(h:z=(k:Int))(hk:k<n)(h1:K k):aO n z K:=⟨k,h,hk,h1⟩
def Mi(n:Nat)(i:AV)(K:Nat->Prop):Prop:=
 match i with
 | .lit (.int _ z)=>aO n z K
 | _=>False
structure dL(xs:List Value)(off size:Nat)(agg:Bool)(K:AV->Prop):Prop where
 out:∃v,(match agg with
  | true=>if off+size<=xs.length then some (AV.agg (((xs.map AV.lit).drop off).take size)) else none
  | false=>(xs.map AV.lit)[off]?)=some v/\K v
structure eH(P:Program)(S:List Nat)(t:aE)(H:List ai)(op:Op)(K:AV->List ai->Prop):Prop where
 out:∀(F:dN) (γ:aT) (w:World) (ρ:Operand->Value),aU F γ (hp H) w->(∀o,o<H.length->o∉S->γ o≠none)->Rs F γ H w->(∀x v,x∈op.operands.toList->aL t x=some v->aw γ v (ρ x))->∀o:Oper,o.op=op ->
  ∃v H' ay nx w',(execOp ρ o).run P w=.ok nx w'/\((∃x,nx=.value x/\aw ay v x)\/(nx=.skip/\v=aQ))/\K v H'/\GX F γ S H ay H' w'
structure dx(P:Program)(m:Bool)(S:List Nat)(t:aE)(c:Call)(ty:TypeId)(s x:AV)(H:List ai)(K:AV->List ai->Prop):Prop where
 out:(∃v σ H',nw E (hp H) ty s x=some (v,σ)/\zc σ H'/\rf H.length v σ.next=true/\bj (cz H) (cz H')/\K v H')\/(m=true/\eH P S t H (.call c) K)
structure al(P:Program)(m:Bool)(S:List Nat)(t:aE)(H:List ai)(op:Op)(K:AV->List ai->Prop):Prop where
 out:(∃out,bK E t (hp H) op=some out/\Ja P S H K out)\/(m=true/\eH P S t H op K)
theorem al.ev{E:Env}{P:Program}{m:Bool}{S:List Nat}{t:aE}{H:List ai}{op:Op}{K:AV->List ai->Prop}(h:∃out,bK E t (hp H) op=some out/\Ja P S H K out):al E P m S t H op K:=⟨.inl h⟩
def N4(H:List ai)(t:aE):Op->Bool
 | .binOp op _ _ _ _=>match op with
   | .shl|.shr|.quo|.rem=>true
   | _=>false
 | .slice _ _ _ _ _=>true
 | .convert _ _ x=>match aL t x with
   | some (.lit (.int _ _))=>false
   | some (.lit (.string _))=>true
   | some (.slice _ _ _ _)=>true
   | some (.lit (.slice (some _) _ _))=>true
   | _=>false
 | .lookup _ x _ _=>match aL t x with
   | some (.map o)=>match H[o]? with
     | some (.map _ _)=>false
     | _=>true
   | _=>false
 | .index _ x _=>match aL t x with
   | some (.lit (.string _))=>true
   | _=>false
 | .mapUpdate _ _ _ _|.insert _ _ _ _|.range _ _|.next _ _|.entry _=>true
 | .makeSlice _ _ _=>true
 | .call c=>match c.callee with
   | .builtin .delete|.builtin .copy=>true
   | _=>false
 | _=>false
def Gc:AV->Bool
 | .lit (.slice (some _) _ _)=>true
 | _=>false
def TQ(P:Program)(m:Bool)(S:List Nat)(t:aE)(H:List ai)(K:AV->List ai->Prop)(op:Op):Prop:=match N4 H t op with
 | true=>al E P m S t H op K
 | false=>match op with
   | .fieldAddr ty x f=>match aL t x with
     | some (.ptr p off)=>Ax E ty f fun ft fo=>tT E ft fun size _=>match Nat.beq size 0 with
       | false=>K (.ptr p (off+fo)) H
       | true=>False
     | some (.lit (.pointer _))=>al E P m S t H (.fieldAddr ty x f) K
     | _=>False
   | .field ty x f=>match aL t x with
     | some (.agg cs)=>Ax E ty f fun ft fo=>Cq E ft cs fo (fun v=>K v H)
     | _=>False
   | .indexAddr ty x' i'=>match aL t x',aL t i' with
     | some x,some i=>match E.ty ty with
       | some r=>match r.bp with
         | .array len elem=>match x with
           | .ptr p off=>tT E elem fun size _=>Mi len i (fun i=>K (.ptr p (off+i * size)) H)
           | _=>False
         | .slice elem=>match x with
           | .slice p off len _=>tT E elem fun size _=>Mi len i (fun i=>K (.ptr p (off+i * size)) H)
           | .lit (.slice _ _ _)=>al E P m S t H (.indexAddr ty x' i') K
           | _=>False
         | _=>False
       | none=>False
     | _,_=>False
   | .load ty a=>match aL t a with
     | some (.ptr p off)=>match H[p]? with
       | some (.cells l _)=>Cq E ty l off (fun v=>K v H)
       | some (.row xs _)=>tT E ty fun size bp=>dL xs off size (bQ bp) (fun v=>K v H)
       | _=>False
     | some (.lit (.pointer _))=>al E P m S t H (.load ty a) K
     | _=>False
   | .store ty a v'=>match aL t a,aL t v' with
     | some (.ptr p off),some v=>match H[p]? with
       | some (.cells l e)=>tT E ty fun size _=>match Nat.beq v.cells.length size&&v.cells.all AV.one&&Nat.ble (off+size) l.length with
         | true=>fl (setFrom l off v.cells) (fun l'=>mz H p (.cells l' e) (fun H'=>K aQ H'))
         | false=>False
       | some (.row _ _)=>al E P m S t H (.store ty a v') K
       | _=>False
     | some (.lit (.pointer _)),some _=>al E P m S t H (.store ty a v') K
     | _,_=>False
   | .assign x=>match aL t x with
     | some v=>K v H
     | none=>False
   | .box e x=>match aL t x with
     | some v=>match Nat.blt H.length aY with
       | true=>fl v.cells fun l=>p6 H (.cells l e) fun H'=>oX (qT H 0) fun n=>K (.ptr n 0) H'
       | false=>False
     | none=>False
   | .call c=>match c.callee with
     | .builtin b=>match b with
       | .append=>match kD t c.args.toList with
         | some [s,x]=>match c.argTypes.toList with
           | [ty,xt]=>match E.ty xt with
             | some xr=>match xr.bp with
               | .int _=>False
               | _=>match Gc s || Gc x with
                 | true=>al E P m S t H (.call c) K
                 | false=>dx E P m S t c ty s x H K
             | none=>False
           | _=>False
         | _=>False
       | b=>match kD t c.args.toList with
         | some args=>match gP E (hp H) b c.argTypes.toList args with
           | some (.pure v)=>K v H
           | some (.read v)=>K v H
           | _=>False
         | none=>False
     | _=>match bK E t (hp H) (.call c) with
       | some (.call f args)=>fl args (fun args=>aj P S f args H K)
       | _=>False
   | op=>match bK E t (hp H) op with
     | some (.pure v)=>K v H
     | some (.read v)=>K v H
     | some (.new ob k)=>match Nat.blt H.length aY with
       | true=>Wr ob (fun ob=>p6 H ob (fun H'=>oX (qT H 0) fun n=>K (k.val n) H'))
       | false=>False
     | _=>False
def rM(P:Program)(S:List Nat)(all:List Oper)(o:Oper)(t:aE)(H:List ai)(K:AV->List ai->Prop):Prop:=
 match dD all t o with
 | none=>False
 | some false=>K aQ H
 | some true=>TQ E P true S t H K o.op
def wpOps(P:Program)(n:Nat)(all:List Oper):List Oper->aE->List ai->(aE->List ai->Prop)->Prop
 | [],t,H,K=>K t H
 | o::rest,t,H,K=>rM E P [] all o t H (fun v H'=>fv v (fun v=>r7 n o.dst t v (fun t'=>wpOps P n all rest t' H' K)))
def aI(P:Program)(n k:Nat):Code->aE->List ai->(fR->aE->List ai->Prop)->Prop
 | .skip,t,H,Q=>Q .normal t H
 | .label _,t,H,Q=>Q .normal t H
 | .ret,t,H,Q=>Q .ret t H
 | .exit id,t,H,Q=>Q (.exit id) t H
 | .goto l,t,H,Q=>Q (.goto l) t H
 | .region id ops draw,t,H,Q=>match draw with
   | false=>wpOps E P n ops.toList ops.toList t H (fun t H=>Q .normal t H)
   | true=>aM P n k (.region id ops true) t H Q
 | .seq a b,t,H,Q=>aI P n k a t H (fun e t H=>match e with
   | .normal=>aI P n k b t H Q
   | .exit id=>Q (.exit id) t H
   | .goto l=>Q (.goto l) t H
   | .ret=>Q .ret t H)
 | .cond c a b,t,H,Q=>match aL t c with
   | some (.lit (.bool v))=>match v with
     | true=>aI P n k a t H Q
     | false=>aI P n k b t H Q
   | _=>False
 | .block id b,t,H,Q=>aI P n k b t H (fun e t H=>match e with
   | .exit yB=>match Nat.beq yB id with
     | true=>Q .normal t H
     | false=>Q (.exit yB) t H
   | .normal=>Q .normal t H
   | .goto l=>Q (.goto l) t H
   | .ret=>Q .ret t H)
 | .loop b,t,H,Q=>aM P n k (.loop b) t H Q
 | .scope b,t,H,Q=>aI P n k b t H (fun e t H=>match e with
   | .goto _=>False
   | .exit id=>Q (.exit id) t H
   | .normal=>Q .normal t H
   | .ret=>Q .ret t H)
 | _,_,_,_=>False
def EF(t:aE)(H:List ai):List ResultVar->(List AV->Prop)->Prop
 | [],L=>L []
 | .tmp i::rs,L=>match t.get i with
   | some v=>EF t H rs fun l=>L (v::l)
   | none=>False
 | .cell a ty::rs,L=>match t.get a with
   | some (.ptr o off)=>match H[o]? with
     | some (.cells l _)=>Cq E ty l off fun v=>EF t H rs fun l=>L (v::l)
     | _=>False
   | _=>False
def Ia(fn:Func)(K:AV->List ai->Prop):fR->aE->List ai->Prop:=fun e t H=>match e with
 | .normal|.ret=>EF E t H fn.results.toList fun l=>match l with
   | [v]=>fv v fun v=>K v H
   | []=>K aQ H
   | l=>K (.tuple l) H
 | _=>False
def eX(P:Program)(fn:Func)(args:List AV)(H:List ai)(K:AV->List ai->Prop):Prop:=
 match fn.body with
 | none=>False
 | some c=>match Nat.ble args.length fn.ntmps&&Nat.ble fn.ntmps 65536 with
   | true=>aI E P fn.ntmps H.length c (setArgs 0 args .e) H (Ia E fn K)
   | false=>False
end
