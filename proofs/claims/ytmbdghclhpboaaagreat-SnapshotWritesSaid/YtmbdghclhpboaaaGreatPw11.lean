/- Part of the proof: EvW SyA. Conditions: as each states. -/
import Derived.Test.YtmbdghclhpboaaaGreatPw10
set_option linter.all false
namespace Go.Proofs.YtmbdghclhpboaaaGreat.Ev
def fp.ex:fp->Exit
 | .normal=>.normal
 | .exit id=>.exit id
 | .goto l=>.goto l
 | .ret=>.ret
theorem OG(P:Program):rB P OF:=fun f args σ v cd h=>by simp[OF] at h
section
variable{F:di}{P:Program}{E:Env}(hE:ch P E)
include hE
theorem HG{cb:Cb}(mz:rB P cb){n id:Nat}(hn:n<=aU){ops:Array Oper}{draw:Bool}{t t':ax}{σ cd:AS}(h:BD E cb n ops draw t σ=some (t',cd)){γ:aK}{w:World}{a:Act}(hR:aL F γ σ w)(hT:cE γ n t a){Q:Exit->Act->World->Prop}
  (hQ:∀aq a' w',aL F aq cd w'->cE aq n t' a'->Step γ σ aq cd->Q .normal a' w'):(Code.region id ops draw).wp P Q a w:=by
 unfold BD at h;cases draw with
 | false=>
   simp only[] at h;refine wp_region ?_;have:=Ij hE mz hn (Q:=Q) ops.toList 0 t t' σ cd γ w a h (by simp) hR hT hQ;simpa using this
 | true=>
   simp only[] at h;split at h
   ·cases h
   ·rename_i hi;have hrows:=HY hi;refine wp_region_any hE.wide ?_;refine Lv hE hrows hn mz (γ0:=γ) (σ0:=σ) hQ ops.size _ 0 _ [] t σ (fun _=>.no) γ _ a _ h ?_ ?_
    ·have pD:∀q,¬bW 0 (Array.replicate ops.size false) q:=fun q hq=>by have:=hq.1;rw[jy] at this;cases this
     have Jl:∀j,(Array.replicate ops.size false).getD j false=false:=fun j=>by simp[Array.getElem?_replicate];split<;>rfl
     refine ⟨fun r hr=>⟨hr,jy _⟩,fun r hr=>.inr hr,?_,fun r _ h=>(by rw[jy] at h;cases h),fun r _ h=>(by rw[Jl] at h;cases h),(by simp),fun q _ hq=>absurd hq (pD q),fun q _ _ _ hq=>absurd hq (pD q),fun q _ hq=>absurd hq (pD q),hR.heap rfl,.refl _ _,⟨hT.size,hT.defers,fun i v hv=>hT.get i v ?_⟩⟩
     ·have:∀(l:List Oper) (i:Nat),(dR ops i l).Pairwise (fun r q=>r.i≠q.i)/\∀r∈dR ops i l,i<=r.i:=by
       intro l;induction l with
       | nil=>intro i;simp[dR]
       | cons o l ih=>
         intro i;obtain ⟨h1,h2⟩:=ih (i+1);simp only[dR,List.pairwise_cons];refine ⟨⟨fun r hr=>?_,h1⟩,fun r hr=>?_⟩
         ·have:=h2 r hr;show i≠r.i;omega
         ·rcases List.mem_cons.1 hr with rfl|hr
          ·exact Nat.le_refl i
          ·have:=h2 r hr;omega
      exact (this ops.toList 0).1
     ·rw[T.eo] at hv;split at hv
      ·cases hv
      ·exact hv
    ·exact Nat.le_trans List.count_le_length (by simp)
theorem Aj{cb:Cb}(mz:rB P cb){n:Nat}(hn:n<=aU):∀(f:Nat) (c:Code) (t:ax) (σ:AS) (e:fp) (t':ax) (cd:AS),dz E cb n f c t σ=some (e,t',cd) ->
  ∀(γ:aK) (w:World) (a:Act) (Q:Exit->Act->World->Prop),aL F γ σ w->cE γ n t a->(∀aq a' w',aL F aq cd w'->cE aq n t' a'->Step γ σ aq cd->Q e.ex a' w')->c.wp P Q a w:=by
 intro f;induction f using Nat.strongRecOn with
 | _ f ih=>
 intro c t σ e t' cd h γ w a Q hR hT hQ;cases f with
 | zero=>simp[dz] at h
 | succ f=>
 have XF:=ih f (Nat.lt_succ_self f);have mQ:∀{b:Code} {t1:ax} {gg:AS} {e1:fp},dz E cb n f b t σ=some (e1,t1,gg)->∀{Q1:Exit->Act->World->Prop},(∀eT a1 w1,aL F eT gg w1->cE eT n t1 a1->Step γ σ eT gg->Q1 e1.ex a1 w1)->b.wp P Q1 a w:=
  fun hb _ hq=>XF _ _ _ _ _ _ hb γ w a _ hR hT hq
 cases c
 case skip=>
  simp only[dz,Option.some.injEq,Prod.mk.injEq] at h;obtain ⟨rfl,rfl,rfl⟩:=h;exact wp_skip (hQ γ a w hR hT (.refl _ _))
 case label l=>
  simp only[dz,Option.some.injEq,Prod.mk.injEq] at h;obtain ⟨rfl,rfl,rfl⟩:=h;exact wp_label (hQ γ a w hR hT (.refl _ _))
 case ret=>
  simp only[dz,Option.some.injEq,Prod.mk.injEq] at h;obtain ⟨rfl,rfl,rfl⟩:=h;exact wp_ret (hQ γ a w hR hT (.refl _ _))
 case exit id=>
  simp only[dz,Option.some.injEq,Prod.mk.injEq] at h;obtain ⟨rfl,rfl,rfl⟩:=h;exact wp_exit (hQ γ a w hR hT (.refl _ _))
 case goto l=>
  simp only[dz,Option.some.injEq,Prod.mk.injEq] at h;obtain ⟨rfl,rfl,rfl⟩:=h;exact wp_goto (hQ γ a w hR hT (.refl _ _))
 case region id ops draw=>
  simp only[dz] at h;obtain ⟨⟨t1,gg⟩,h1,h2⟩:=Option.map_eq_some_iff.1 h;simp only[Prod.mk.injEq] at h2;obtain ⟨rfl,rfl,rfl⟩:=h2;exact HG hE mz hn h1 hR hT hQ
 case seq x y=>
  simp only[dz] at h;refine wp_seq ?_;split at h
  ·rename_i t1 gg h1;exact mQ h1 fun eT a1 w1 fq lX fg=>XF _ _ _ _ _ _ h eT w1 a1 _ fq lX fun gF a2 w2 Ja lY ri=>hQ gF a2 w2 Ja lY (fg.trans ri)
  ·rename_i aN;refine mQ h fun eT a1 w1 fq lX fg=>?_;have:=hQ eT a1 w1 fq lX fg;cases e with
   | normal=>exact absurd h (aN _ _)
   | _=>exact this
 case cond c x y=>
  simp only[dz] at h;split at h
  ·rename_i hc;have:=hT.aE _ _ hc;rw[al] at this;exact wp_cond_true this (mQ h hQ)
  ·rename_i hc;have:=hT.aE _ _ hc;rw[al] at this;exact wp_cond_false this (mQ h hQ)
  ·cases h
 case block id b=>
  simp only[dz] at h;refine wp_block ?_;split at h
  ·rename_i xC t1 gg h1;refine mQ h1 fun eT a1 w1 fq lX fg=>?_;simp only[fp.ex,Exit.inBlock];split at h<;>rename_i hb<;>simp only[Option.some.injEq,Prod.mk.injEq] at h<;>obtain ⟨rfl,rfl,rfl⟩:=h
   ·rw[if_pos (Nat.eq_of_beq_eq_true hb)];exact hQ eT a1 w1 fq lX fg
   ·rw[if_neg (Nat.ne_of_beq_eq_false hb)];exact hQ eT a1 w1 fq lX fg
  ·rename_i aN;refine mQ h fun eT a1 w1 fq lX fg=>?_;have:=hQ eT a1 w1 fq lX fg;cases e with
   | exit xC=>exact absurd h (aN _ _ _)
   | _=>exact this
 case loop b=>
  have key:∀(m:Nat),m<=f+1->∀(t:ax) (σ:AS),dz E cb n m (.loop b) t σ=some (e,t',cd)->∀(eT:aK) (w:World) (a:Act),aL F eT σ w->cE eT n t a->(∀aq a' w',aL F aq cd w'->cE aq n t' a'->Step eT σ aq cd->Q e.ex a' w')->Code.rounds P b Q m a w:=by
   intro m;induction m with
   | zero=>intro _ t σ h;simp[dz] at h
   | succ m ihm=>
     intro hm t σ h eT w a hR hT hQ;simp only[dz] at h;rw[rounds_succ];split at h
     ·rename_i t1 gg h1;exact ih m (by omega) _ _ _ _ _ _ h1 eT w a _ hR hT fun gF a2 w2 Ja lY ri=>ihm (by omega) t1 gg h gF w2 a2 Ja lY fun VP a3 w3 YN YQ YO=>hQ VP a3 w3 YN YQ (ri.trans YO)
     ·rename_i aN;refine ih m (by omega) _ _ _ _ _ _ h eT w a _ hR hT fun gF a2 w2 Ja lY ri=>?_;have:=hQ gF a2 w2 Ja lY ri;cases e with
      | normal=>exact absurd h (aN _ _)
      | _=>exact this
  exact wp_loop_rounds (f+1) (key (f+1) (Nat.le_refl _) t σ h γ w a hR hT hQ)
 case scope b=>
  simp only[dz] at h;refine wp_scope_straight ?_;split at h
  ·cases h
  ·rename_i aN;refine mQ h fun eT a1 w1 fq lX fg=>?_;have:=hQ eT a1 w1 fq lX fg;cases e with
   | goto l=>exact absurd h (aN _ _ _)
   | _=>exact this
 all_goals simp[dz] at h
omit hE in
theorem qE:∀(l:List AV) (k:Nat) (t:ax) (i:Nat),k+l.length<=aU->(setArgs k l t).get i=if k<=i/\i<k+l.length then l[i - k]? else t.get i
 | [],k,t,i,_=>by
   simp only[setArgs,List.length_nil];rw[if_neg (by omega)]
 | v::l,k,t,i,h=>by
   simp only[setArgs,List.length_cons] at h ⊢;rw[qE l (k+1) _ i (by omega),T.bH _ _ _ _ (by omega)];by_cases e:i=k
   ·subst e;rw[if_neg (by omega),if_pos rfl,if_pos (by omega)];simp
   ·by_cases hr:k+1<=i/\i<k+1+l.length
    ·rw[if_pos hr,if_pos (by omega)];rw[show i - k=(i - (k+1))+1 by omega,List.getElem?_cons_succ]
    ·rw[if_neg hr,if_neg e,if_neg (by omega)]
theorem HU{γ:aK}{σ:AS}{w:World}{n:Nat}{t:ax}{a:Act}(hR:aL F γ σ w)(hT:cE γ n t a){r:ResultVar}{v:AV}(h:j9 E t σ r=some v) :
  ∃x,((match r with|.tmp i=>pure (a.tmps.getD i undef)|.cell b ty=>do loadVar ty (<-asAddr (a.tmps.getD b undef)):Sem Value)).run P w=.ok x w/\an γ v x:=by
 cases r with
 | tmp i=>
   simp only[j9] at h;obtain ⟨x,h1,h2⟩:=hT.get i v h;exact ⟨x,by simp[h1],h2⟩
 | cell b ty=>
   simp only[j9] at h;split at h
   ·rename_i o off hb;obtain ⟨x,h1,h2⟩:=hT.get b _ hb;simp only[an] at h2;obtain ⟨ad,rfl,dj⟩:=h2;obtain ⟨y,h3,h4⟩:=Hg hE hR.toRel h dj;exact ⟨y,by simp[h1,asAddr,h3],h4⟩
   ·cases h
theorem mr{γ:aK}{σ:AS}{w:World}{n:Nat}{t:ax}{a:Act}(hR:aL F γ σ w)(hT:cE γ n t a):∀{l:List ResultVar} {vs:List AV},dY (l.map (j9 E t σ))=some vs ->
  ∃xs,(l.mapM (fun r=>match r with|.tmp i=>pure (a.tmps.getD i undef)|.cell b ty=>do loadVar ty (<-asAddr (a.tmps.getD b undef)):ResultVar->Sem Value)).run P w=.ok xs w/\az γ vs xs
 | [],vs,h=>by
   simp only[List.map_nil,dY,Option.some.injEq] at h;subst h;exact ⟨[],by simp,by simp[az]⟩
 | r::l,vs,h=>by
   simp only[List.map_cons] at h;cases hr:j9 E t σ r with
   | none=>rw[hr] at h;simp[dY] at h
   | some v=>
     rw[hr] at h;simp only[dY] at h;cases hl:dY (l.map (j9 E t σ)) with
     | none=>rw[hl] at h;simp at h
     | some vs'=>
       rw[hl] at h;simp only[Option.some.injEq] at h;subst h;obtain ⟨x,h1,h2⟩:=HU hE hR hT hr;obtain ⟨xs,h3,h4⟩:=mr hR hT hl;refine ⟨x::xs,?_,?_⟩
       ·rw[List.mapM_cons,Sem.run_bind,h1,Result.andThen_ok,Sem.run_bind,h3,Result.andThen_ok];rfl
       ·simp only[az];exact ⟨x,xs,rfl,h2,h4⟩
theorem sE{γ:aK}{σ:AS}{w:World}{n:Nat}{t:ax}{a:Act}(hR:aL F γ σ w)(hT:cE γ n t a){fn:Func}{v:AV}(h:nF E t σ fn.results.toList=some v) :
  ∃x,(results fn a.tmps).run P w=.ok x w/\an γ v x:=by
 unfold nF at h;have cW:∀xs,(fn.results.toList.mapM (fun r=>match r with|.tmp i=>pure (a.tmps.getD i undef)|.cell b ty=>do loadVar ty (<-asAddr (a.tmps.getD b undef)):ResultVar->Sem Value)).run P w=.ok xs w ->
   (results fn a.tmps).run P w=.ok (if h:xs.toArray.size=1 then xs.toArray[0] else .tuple xs.toArray) w:=by
  intro xs hx;unfold results;rw[Sem.run_bind,Array.mapM_eq_mapM_toList,Sem.run_map];have xA:(fn.results.toList.mapM (fun|.tmp t=>pure (a.tmps.getD t undef)|.cell b t=>do loadVar t (<-asAddr (a.tmps.getD b undef)):ResultVar->Sem Value)).run P w=.ok xs w:=hx;erw [xA];rfl
 split at h
 ·rename_i u hl;simp only[Option.some.injEq] at h;subst h;obtain ⟨xs,h1,h2⟩:=mr hE hR hT hl;simp only[az] at h2;obtain ⟨x,ZG,rfl,hx,rfl⟩:=h2;exact ⟨x,by rw[cW _ h1];rfl,hx⟩
 ·rename_i hl;simp only[Option.some.injEq] at h;subst h;obtain ⟨xs,h1,h2⟩:=mr hE hR hT hl;simp only[az] at h2;subst h2;exact ⟨_,cW _ h1,aM γ _⟩
 ·rename_i l Xj ZN hl;simp only[Option.some.injEq] at h;subst h;obtain ⟨xs,h1,h2⟩:=mr hE hR hT hl;refine ⟨_,cW _ h1,?_⟩;have hlen:=bp h2;rw[dif_neg (by
   intro e;simp at e;rw[hlen] at e;obtain ⟨u,rfl⟩:=List.length_eq_one_iff.1 e;exact Xj u rfl)]
  simp only[an];exact ⟨_,rfl,by simpa using h2⟩
 ·cases h
theorem uM{hv:Cb}(N8:rB P hv):∀d,rB P (vP E hv d)
 | 0=>fun f args σ v cd h=>by simp[vP] at h
 | d+1=>fun f args σ v cd h F γ w xs hR gw=>by
   simp only[vP] at h;cases hv:hv f args σ with
   | some r=>
     obtain ⟨u,τ⟩:=r;rw[hv] at h;simp only[Option.some.injEq,Prod.mk.injEq] at h;obtain ⟨rfl,rfl⟩:=h;exact N8 f args σ u τ hv F γ w xs hR gw
   | none=>
   rw[hv] at h;simp only[] at h;cases hf:E.fn f with
   | none=>rw[hf] at h;cases h
   | some fn=>
     rw[hf] at h;simp only[] at h;obtain ⟨AL,Jb⟩:=hE.fn f fn hf;refine ⟨Jb xs w,fun R fj=>?_⟩;cases hb:fn.body with
     | none=>rw[hb] at h;cases h
     | some c=>
       rw[hb] at h;simp only[] at h;split at h
       ·cases h
       ·rename_i hle;simp only[Bool.and_eq_true] at hle;have h1:=Nat.le_of_ble_eq_true hle.1;have h2:=Nat.le_of_ble_eq_true hle.2;have hlen:=bp gw;have iW:xs.size=args.length:=by simpa using hlen
        have eO:fn.ntmps<=aU:=by unfold aU;omega
        have hT:cE γ fn.ntmps (setArgs 0 args .e) { tmps:=xs++Array.replicate (fn.ntmps - xs.size) undef,defers:=[] }:=by
         refine ⟨by simp;omega,rfl,fun i u hu=>?_⟩;rw[qE _ _ _ _ (by omega)] at hu;split at hu
         ·rename_i hi;obtain ⟨x,h3,h4⟩:=dq gw i u (by simpa using hu);refine ⟨x,?_,h4⟩;simp only[];rw[Array.getElem?_append_left (by omega)];simpa using h3
         ·simp[T.get] at hu
        refine calls_of_wp AL hb ?_;split at h
        ·rename_i t1 gg hc;obtain ⟨u,hu,zd⟩:=Option.map_eq_some_iff.1 h;simp only[Prod.mk.injEq] at zd;obtain ⟨rfl,rfl⟩:=zd;refine Aj hE (uM N8 d) eO _ _ _ _ _ _ _ hc γ w _ _ hR hT fun aq a' w' ky fT uR=>?_;obtain ⟨x,h3,h4⟩:=sE hE ky fT hu;exact ⟨fT.defers,x,h3,fj aq x w' h4 ky uR⟩
        ·rename_i t1 gg hc;obtain ⟨u,hu,zd⟩:=Option.map_eq_some_iff.1 h;simp only[Prod.mk.injEq] at zd;obtain ⟨rfl,rfl⟩:=zd;refine Aj hE (uM N8 d) eO _ _ _ _ _ _ _ hc γ w _ _ hR hT fun aq a' w' ky fT uR=>?_;obtain ⟨x,h3,h4⟩:=sE hE ky fT hu;exact ⟨fT.defers,x,h3,fj aq x w' h4 ky uR⟩
        ·cases h
end
abbrev YC(b:Bool)(X Y:Prop):Prop:=@Bool.rec (fun _=>Prop) Y X b
theorem aa{b:Bool}{X Y:Prop}(h1:b=true->X)(h2:b=false->Y):@Bool.rec (fun _=>Prop) Y X b:=by cases b;exact h2 rfl;exact h1 rfl
def vw:af->af
 | .row xs e=>.cells (xs.map .lit) e
 | .res _=>.dead
 | ob=>ob
def CC:Nat->List af->T af->T af
 | _,[],t=>t
 | k,a::l,t=>CC (k+1) l (t.put k (vw a))
def hp(H:List af):AS:=⟨CC 0 H .e,H.length⟩
def fl{α:Type}:List α->(List α->Prop)->Prop
 | [],K=>K []
 | a::l,K=>fl l (fun l'=>K (a::l'))
def pg{α:Type}:List α->α->(List α->Prop)->Prop
 | [],x,K=>K [x]
 | a::l,x,K=>pg l x (fun l'=>K (a::l'))
def lS{α:Type}:List α->Nat->α->(List α->Prop)->Prop
 | [],_,_,K=>K []
 | a::l,i,x,K=>match i with
   | 0=>K (x::l)
   | i+1=>lS l i x (fun l=>K (a::l))
def TH:af->(af->Prop)->Prop
 | .cells l e,K=>fl l (fun l'=>K (.cells l' e))
 | .map es c,K=>fl es (fun l'=>K (.map l' c))
 | ob,K=>K ob
def fv:AV->(AV->Prop)->Prop
 | .lit u,K=>match u with
   | .bool b=>YC b (K (.lit (.bool true))) (K (.lit (.bool false)))
   | .int k n=>K (.lit (.int k n))
   | .string s=>K (.lit (.string s))
   | u=>K (.lit u)
 | .agg l,K=>fl l (fun l=>K (.agg l))
 | .tuple l,K=>fl l (fun l=>K (.tuple l))
 | .ptr o off,K=>K (.ptr o off)
 | .slice o off len c,K=>K (.slice o off len c)
 | .map o,K=>K (.map o)
 | .func f a b,K=>K (.func f a b)
 | .iface t v,K=>K (.iface t v)
def oc(n:Nat)(K:Nat->Prop):Prop:=match n with
 | 0=>K 0
 | 1=>K 1
 | 2=>K 2
 | 3=>K 3
 | 4=>K 4
 | 5=>K 5
 | 6=>K 6
 | 7=>K 7
 | 8=>K 8
 | 9=>K 9
 | 10=>K 10
 | 11=>K 11
 | 12=>K 12
 | 13=>K 13
 | 14=>K 14
 | 15=>K 15
 | 16=>K 16
 | 17=>K 17
 | 18=>K 18
 | 19=>K 19
 | 20=>K 20
 | 21=>K 21
 | 22=>K 22
 | 23=>K 23
 | 24=>K 24
 | 25=>K 25
 | 26=>K 26
 | 27=>K 27
 | 28=>K 28
 | 29=>K 29
 | 30=>K 30
 | 31=>K 31
 | 32=>K 32
 | 33=>K 33
 | 34=>K 34
 | 35=>K 35
 | 36=>K 36
 | 37=>K 37
 | 38=>K 38
 | 39=>K 39
 | 40=>K 40
 | 41=>K 41
 | 42=>K 42
 | 43=>K 43
 | 44=>K 44
 | 45=>K 45
 | 46=>K 46
 | 47=>K 47
 | n=>K n
def qb{α:Type}:List α->Nat->Nat
 | [],n=>n
 | _::l,n=>qb l (n+1)
def IH{α:Type}:Nat->T α->Nat->α->(T α->Prop)->Prop
 | 0,t,_,_,K=>K t
 | f+1,.e,i,a,K=>match i with
   | 0=>K (.n (some a) .e .e)
   | i+1=>match Nat.beq (i % 2) 0 with
     | true=>IH f .e (i / 2) a (fun l=>K (.n none l .e))
     | false=>IH f .e (i / 2) a (fun r=>K (.n none .e r))
 | f+1,.n v l r,i,a,K=>match i with
   | 0=>K (.n (some a) l r)
   | i+1=>match Nat.beq (i % 2) 0 with
     | true=>IH f l (i / 2) a (fun l=>K (.n v l r))
     | false=>IH f r (i / 2) a (fun r=>K (.n v l r))
def q8(n:Nat)(d:Option Nat)(t:ax)(v:AV)(K:ax->Prop):Prop:=
 match d with
 | none=>K t
 | some d=>match Nat.blt d n with
   | true=>IH 21 t d v K
   | false=>False
theorem rP{α:Type}:∀(l:List α) (K:List α->Prop),fl l K=K l
 | [],_=>rfl
 | a::l,K=>rP l (fun l'=>K (a::l'))
theorem kQ{α:Type}(x:α):∀(l:List α) (K:List α->Prop),pg l x K=K (l++[x])
 | [],_=>rfl
 | a::l,K=>kQ x l (fun l'=>K (a::l'))
theorem ki{α:Type}(x:α):∀(l:List α) (i:Nat) (K:List α->Prop),lS l i x K=K (l.set i x)
 | [],_,_=>rfl
 | _::_,0,_=>rfl
 | a::l,i+1,K=>ki x l i (fun l'=>K (a::l'))
theorem Qx(ob:af)(K:af->Prop):TH ob K=K ob:=by
 cases ob<;>first|rfl|exact rP _ _
theorem rV{v:AV}{K:AV->Prop}(h:fv v K):K v:=by
 unfold fv at h;split at h
 ·split at h
  ·rename_i b;cases b<;>exact h
  ·exact h
  ·exact h
  ·exact h
 ·rwa [rP] at h
 ·rwa [rP] at h
 ·exact h
 ·exact h
 ·exact h
 ·exact h
 ·exact h
theorem iE(n:Nat)(K:Nat->Prop):oc n K=K n:=by
 unfold oc;split<;>rfl
theorem lf{α:Type}:∀(l:List α) (n:Nat),qb l n=n+l.length
 | [],_=>rfl
 | _::l,n=>by simp only[qb,lf l,List.length_cons];omega
theorem Fw{α:Type}(a:α):∀(f:Nat) (t:T α) (i:Nat) (K:T α->Prop),IH f t i a K=K (T.set f t i a)
 | 0,_,_,_=>rfl
 | f+1,.e,i,K=>by
   cases i with
   | zero=>rfl
   | succ i=>
     simp only[IH,T.set];cases Nat.beq (i % 2) 0<;>exact Fw a f _ _ _
 | f+1,.n v l r,i,K=>by
   cases i with
   | zero=>rfl
   | succ i=>
     simp only[IH,T.set];cases Nat.beq (i % 2) 0<;>exact Fw a f _ _ _
theorem lC{n:Nat}{d:Option Nat}{t:ax}{v:AV}{K:ax->Prop}(h:q8 n d t v K):∃t',oj n t d v=some t'/\K t':=by
 unfold q8 at h;unfold oj;split at h
 ·exact ⟨t,rfl,h⟩
 ·split at h
  ·rename_i hb;rw[Fw] at h;exact ⟨_,by simp only[hb];rfl,h⟩
  ·exact h.elim
theorem Hp:∀(H:List af) (k:Nat) (t:T af) (o:Nat),k+H.length<=aU->(CC k H t).get o=if k<=o/\o<k+H.length then (H[o - k]?).map vw else t.get o
 | [],k,t,o,_=>by rw[if_neg (by simp only[List.length_nil];omega)];rfl
 | a::H,k,t,o,h=>by
   simp only[List.length_cons] at h;simp only[CC];rw[Hp H (k+1) _ o (by omega),T.bH _ _ _ _ (by omega)];by_cases e:o=k
   ·subst e;rw[if_neg (by omega),if_pos rfl,if_pos (by simp)];simp
   ·by_cases h1:k+1<=o/\o<k+1+H.length
    ·rw[if_pos h1,if_pos (by simp;omega),show o - k=(o - (k+1))+1 by omega,List.getElem?_cons_succ]
    ·rw[if_neg h1,if_neg e,if_neg (by simp;omega)]
theorem aT{H:List af}(h:H.length<=aU)(o:Nat):(hp H).heap.get o=(H[o]?).map vw:=by
 unfold hp;simp only[];rw[Hp H 0 .e o (by omega)];split
 ·simp
 ·rw[List.getElem?_eq_none (by omega)];rfl
structure ye(σ:AS)(H:List af):Prop where
 next:σ.next=H.length
 get:∀o,σ.heap.get o=(H[o]?).map vw
theorem aL.congr{F:di}{γ:aK}{σ τ:AS}{w:World}(h:aL F γ σ w)(hn:σ.next=τ.next)(hg:∀o,o<σ.next->τ.heap.get o=σ.heap.get o):aL F γ τ w:=by
 have hd:∀{o q},γ o=some q->o<σ.next:=fun {o q} hq=>by
  rcases Nat.lt_or_ge o σ.next with h1|h1
  ·exact h1
  ·rw[h.jv o h1] at hq;cases hq
 refine ⟨⟨fun o ho=>h.jv o (by omega),fun o p hp=>?_,fun o ho=>?_,h.inj,by have:=h.aU;omega⟩,fun o p hp=>?_,h.frame⟩
 ·rw[hg o (hd hp)];exact h.obj o p hp
 ·rw[hg o (hd ho)];exact h.gone o ho
 ·rw[hg o (hd hp)];exact h.live o p hp
theorem aL.ID{F:di}{γ:aK}{σ:AS}{w:World}{H:List af}(h:aL F γ σ w)(e:ye σ H):aL F γ (hp H) w:=
 h.congr e.next fun o ho=>by
  have hl:=h.aU;rw[aT (by have:=e.next;omega)];exact (e.get o).symm
def aA:aH:=⟨fun _ S=>∀b,¬S b,fun h hb=>absurd hb (h _),fun h _=>h⟩
def kh:af->aH
 | .res R=>R
 | _=>aA
def cC(H:List af):List aH:=H.map kh
def bc(L M:List aH):Prop:=∀w T,bw L w T->∃T':Nat->Prop,(∀b,T' b->T b)/\bw M w T'
theorem bc.refl(L:List aH):bc L L:=fun _ T h=>⟨T,fun _ h=>h,h⟩
theorem bc.trans{L M N:List aH}(h:bc L M)(k:bc M N):bc L N:=fun w T ht=>by
 obtain ⟨T1,h1,h2⟩:=h w T ht;obtain ⟨T2,h3,h4⟩:=k w T1 h2;exact ⟨T2,fun b hb=>h1 b (h3 b hb),h4⟩
theorem bc.of_eq{L M:List aH}(h:L=M):bc L M:=h ▸ bc.refl L
theorem pv{H:List af}{ob:af}(h:kh ob=aA):bc (cC H) (cC (H++[ob])):=fun w T ht=>⟨T,fun _ h=>h,by
 unfold cC;rw[List.map_append];refine dX.2 ⟨T,fun _=>False,ht,⟨fun _=>False,fun _=>False,?_,fun _ h=>h,fun _ h _=>h,fun b=>by simp⟩,fun _ _ h=>h,fun b=>by simp⟩;rw[h];exact fun _ h=>h⟩
theorem pP{H:List af}{o:Nat}{a ob:af}(ho:H[o]?=some a)(h:kh ob=kh a):cC (H.set o ob)=cC H:=by
 unfold cC;rw[List.map_set,h];apply List.ext_getElem?;intro i;rw[List.getElem?_set];split
 ·rename_i e;subst e;rw[List.getElem?_map,ho];obtain ⟨hl,_⟩:=List.getElem?_eq_some_iff.1 ho;simp[hl]
 ·rfl
structure Rs(F:di)(γ:aK)(H:List af)(w:World):Prop where
 out:∃T,bw (cC H) w T/\∀b,T b->¬F.fz b/\∀o p,γ o=some (some p)->p.block≠b
theorem Rs.Ai{F:di}{γ:aK}{H H':List af}{w:World}(h:Rs F γ H w)(e:bc (cC H) (cC H')):Rs F γ H' w:=by
 obtain ⟨T,h1,h2⟩:=h.out;obtain ⟨T',h3,h4⟩:=e w T h1;exact ⟨T',h4,fun b hb=>h2 b (h3 b hb)⟩
theorem wP{F:di}{γ:aK}{σ:AS}{H:List af}{w:World}(hR:aL F γ σ w)(hs:Rs F γ H w):∃F',aL F' γ σ w/\∀aq cd w',aL F' aq cd w'->aL F aq cd w'/\∀H',bc (cC H) (cC H')->Rs F aq H' w':=by
 obtain ⟨T,h1,h2⟩:=hs.out;refine ⟨⟨w,fun b=>b<w.heap.size/\(F.fz b\/T b)⟩,⟨hR.toRel,hR.live,⟨rfl,rfl,rfl,Nat.le_refl _,fun b h=>h.1,fun b _=>rfl,fun o p hp h=>h.2.elim (hR.frame.own o p hp) (fun h=>(h2 _ h).2 o p hp rfl)⟩⟩,fun aq cd w' ky=>?_⟩;have hF:=hR.frame;have hF':=ky.frame;have hb:∀b,F.fz b->b<w.heap.size:=fun b h=>Nat.lt_of_lt_of_le (hF.fV b h) hF.size;refine ⟨⟨ky.toRel,ky.live,⟨hF'.os.trans hF.os,hF'.tape.trans hF.tape,hF'.output.trans hF.output,Nat.le_trans hF.size hF'.size,hF.fV,fun b h=>(hF'.block b ⟨hb b h,.inl h⟩).trans (hF.block b h),fun o p hp h=>hF'.own o p hp ⟨hb _ h,.inl h⟩⟩⟩,fun H' e=>?_⟩;refine Rs.Ai ⟨T,il h1 fun b hb=>hF'.block b ⟨iJ h1 hb,.inr hb⟩,fun b hb=>⟨(h2 b hb).1,fun o p hp e=>hF'.own o p hp (by rw[e];exact ⟨iJ h1 hb,.inr hb⟩)⟩⟩ e
structure Rl(F:di)(γ:aK)(H:List af)(w:World):Prop where
 rel:aL F γ (hp H) w
 pl:∀o,o<H.length->γ o≠none
 rs:Rs F γ H w
def Old(k:Nat)(γ aq:aK):Prop:=∀o,o<k->∀p,γ o=some p->aq o=some p\/aq o=some none
theorem Old.refl(k:Nat)(γ:aK):Old k γ γ:=fun _ _ _ h=>.inl h
theorem Old.trans{k:Nat}{a b c:aK}(h:Old k a b)(h':Old k b c):Old k a c:=fun o ho p hp=>by
 rcases h o ho p hp with h1|h1
 ·exact h' o ho p h1
 ·rcases h' o ho none h1 with h2|h2<;>exact .inr h2
theorem Old.zD{γ aq:aK}(h:Ext γ aq)(k:Nat):Old k γ aq:=fun o _ p hp=>h o p hp
structure FB(F:di)(γ:aK)(S:List Nat)(H:List af)(aq:aK)(H':List af)(w':World):Prop where
 rel:aL F aq (hp H') w'
 step:Step γ (hp H) aq (hp H')
 pl:∀q,q<H'.length->q∉S->aq q≠none
 rs:Rs F aq H' w'
theorem FB.rl{F:di}{γ aq:aK}{H H':List af}{w':World}(h:FB F γ [] H aq H' w'):Rl F aq H' w':=⟨h.rel,fun q hq=>h.pl q hq (by simp),h.rs⟩
theorem Step.ID{γ aq:aK}{σ τ:AS}{H:List af}(h:Step γ σ aq τ)(e:ye τ H)(hl:H.length<=aU):Step γ σ aq (hp H):=
 ⟨h.ext,h.new,by have:=h.le;have:=e.next;show σ.next<=H.length;omega,fun o ho hg=>by rw[aT hl,<-e.get o];exact h.same o ho hg⟩
structure ag(P:Program)(S:List Nat)(f:Nat)(args:List AV)(H:List af)(K:AV->List af->Prop):Prop where
 out:∀(F:di) (γ:aK) (w:World) (xs:Array Value),aL F γ (hp H) w->(∀o,o<H.length->o∉S->γ o≠none)->Rs F γ H w->az γ args xs.toList ->
  (callFunc f xs).run P w=.ok (.enter f xs) w/\∀R:Ending->World->Prop,(∀v H' aq x w',K v H'->an aq v x->FB F γ S H aq H' w'->R (.returned x) w')->Calls P f xs w R
abbrev nJ(P:Program)(f:Nat)(args:List AV)(H:List af)(K:AV->List af->Prop):Prop:=ag P [] f args H K
structure aJ(P:Program)(n k:Nat)(c:Code)(t:ax)(H:List af)(Q:fp->ax->List af->Prop):Prop where
 out:∀(F:di) (γ:aK) (w:World) (a:Act) (R:Exit->Act->World->Prop),Rl F γ H w->cE γ n t a ->
  (∀e t' H' aq a' w',Q e t' H'->Rl F aq H' w'->cE aq n t' a'->Old k γ aq->R e.ex a' w')->c.wp P R a w
section
variable(E:Env)
def qm(n:Nat)(v:AV)(next:Nat):Bool:=
 Nat.beq next n || (match v with
  | .slice o _ _ (.grown _)=>Nat.beq o n&&Nat.beq next (n+1)
  | .ptr o _=>Nat.beq o n&&Nat.beq next (n+1)
  | _=>false)
def Hu(P:Program)(S:List Nat)(H:List af)(K:AV->List af->Prop):Out->Prop
 | .pure v=>K v H
 | .read v=>K v H
 | .new ob k=>H.length<aU/\K (k.val H.length) (H++[ob])
 | .act v σ=>∃H',ye σ H'/\qm H.length v σ.next=true/\bc (cC H) (cC H')/\K v H'
 | .call f args=>ag P S f args H K
def sN(t:TypeId)(K:Nat->TypeDesc->Prop):Prop:=match E.ty t with
 | some ⟨⟨_,_,size,_,_,_,_,_,_,_⟩,bg,_,_⟩=>K size bg
 | none=>False
def Bo(t:TypeId)(cs:List AV)(off:Nat)(K:AV->Prop):Prop:=sN E t fun size bg=>match bG bg with
 | true=>match Nat.ble (off+size) cs.length with
   | true=>fl ((cs.drop off).take size) (fun l=>K (.agg l))
   | false=>False
 | false=>match cs[off]? with
   | some v=>K v
   | none=>False
def zz(t:TypeId)(f:Nat)(K:TypeId->Nat->Prop):Prop:=match E.ty t with
 | some r=>match r.bg with
   | .struct fs=>match fs.toList[f]? with
     | some ⟨_,type,offset,_,_,_,_⟩=>K type offset
     | none=>False
   | _=>False
 | none=>False
structure aI(n:Nat)(z:Int)(K:Nat->Prop):Prop where
 out:∃k:Nat,z=(k:Int)/\k<n/\K k
theorem aI.of{n k:Nat}{z:Int}{K:Nat->Prop}(h:z=(k:Int))(hk:k<n)(h1:K k):aI n z K:=⟨k,h,hk,h1⟩
def KJ(n:Nat)(i:AV)(K:Nat->Prop):Prop:=
 match i with
 | .lit (.int _ z)=>aI n z K
 | _=>False
structure df(xs:List Value)(off size:Nat)(agg:Bool)(K:AV->Prop):Prop where
 out:∃v,(match agg with
  | true=>if off+size<=xs.length then some (AV.agg (((xs.map AV.lit).drop off).take size)) else none
  | false=>(xs.map AV.lit)[off]?)=some v/\K v
structure eU(P:Program)(S:List Nat)(t:ax)(H:List af)(op:Op)(K:AV->List af->Prop):Prop where
 out:∀(F:di) (γ:aK) (w:World) (ρ:Operand->Value),aL F γ (hp H) w->(∀o,o<H.length->o∉S->γ o≠none)->Rs F γ H w->(∀x v,x∈op.operands.toList->aE t x=some v->an γ v (ρ x))->∀o:Oper,o.op=op ->
  ∃v H' aq nx w',(execOp ρ o).run P w=.ok nx w'/\((∃x,nx=.value x/\an aq v x)\/(nx=.skip/\v=aP))/\K v H'/\FB F γ S H aq H' w'
structure dP(P:Program)(m:Bool)(S:List Nat)(t:ax)(c:Call)(ty:TypeId)(s x:AV)(H:List af)(K:AV->List af->Prop):Prop where
 out:(∃v σ H',mw E (hp H) ty s x=some (v,σ)/\ye σ H'/\qm H.length v σ.next=true/\bc (cC H) (cC H')/\K v H')\/(m=true/\eU P S t H (.call c) K)
structure ai(P:Program)(m:Bool)(S:List Nat)(t:ax)(H:List af)(op:Op)(K:AV->List af->Prop):Prop where
 out:(∃out,bz E t (hp H) op=some out/\Hu P S H K out)\/(m=true/\eU P S t H op K)
theorem ai.ev{E:Env}{P:Program}{m:Bool}{S:List Nat}{t:ax}{H:List af}{op:Op}{K:AV->List af->Prop}(h:∃out,bz E t (hp H) op=some out/\Hu P S H K out):ai E P m S t H op K:=⟨.inl h⟩
def L7(H:List af)(t:ax):Op->Bool
 | .binOp op _ _ _ _=>match op with
   | .shl|.shr|.quo|.rem=>true
   | _=>false
 | .slice _ _ _ _ _=>true
 | .convert _ _ x=>match aE t x with
   | some (.lit (.int _ _))=>false
   | some (.lit (.string _))=>true
   | some (.slice _ _ _ _)=>true
   | some (.lit (.slice (some _) _ _))=>true
   | _=>false
 | .lookup _ x _ _=>match aE t x with
   | some (.map o)=>match H[o]? with
     | some (.map _ _)=>false
     | _=>true
   | _=>false
 | .index _ x _=>match aE t x with
   | some (.lit (.string _))=>true
   | _=>false
 | .mapUpdate _ _ _ _|.insert _ _ _ _|.range _ _|.next _ _|.entry _=>true
 | .makeSlice _ _ _=>true
 | .call c=>match c.callee with
   | .builtin .delete|.builtin .copy=>true
   | _=>false
 | _=>false
def EV:AV->Bool
 | .lit (.slice (some _) _ _)=>true
 | _=>false
def Rj(P:Program)(m:Bool)(S:List Nat)(t:ax)(H:List af)(K:AV->List af->Prop)(op:Op):Prop:=match L7 H t op with
 | true=>ai E P m S t H op K
 | false=>match op with
   | .fieldAddr ty x f=>match aE t x with
     | some (.ptr p off)=>zz E ty f fun ft fo=>sN E ft fun size _=>match Nat.beq size 0 with
       | false=>K (.ptr p (off+fo)) H
       | true=>False
     | some (.lit (.pointer _))=>ai E P m S t H (.fieldAddr ty x f) K
     | _=>False
   | .field ty x f=>match aE t x with
     | some (.agg cs)=>zz E ty f fun ft fo=>Bo E ft cs fo (fun v=>K v H)
     | _=>False
   | .indexAddr ty x' i'=>match aE t x',aE t i' with
     | some x,some i=>match E.ty ty with
       | some r=>match r.bg with
         | .array len elem=>match x with
           | .ptr p off=>sN E elem fun size _=>KJ len i (fun i=>K (.ptr p (off+i * size)) H)
           | _=>False
         | .slice elem=>match x with
           | .slice p off len _=>sN E elem fun size _=>KJ len i (fun i=>K (.ptr p (off+i * size)) H)
           | .lit (.slice _ _ _)=>ai E P m S t H (.indexAddr ty x' i') K
           | _=>False
         | _=>False
       | none=>False
     | _,_=>False
   | .load ty a=>match aE t a with
     | some (.ptr p off)=>match H[p]? with
       | some (.cells l _)=>Bo E ty l off (fun v=>K v H)
       | some (.row xs _)=>sN E ty fun size bg=>df xs off size (bG bg) (fun v=>K v H)
       | _=>False
     | some (.lit (.pointer _))=>ai E P m S t H (.load ty a) K
     | _=>False
   | .store ty a v'=>match aE t a,aE t v' with
     | some (.ptr p off),some v=>match H[p]? with
       | some (.cells l e)=>sN E ty fun size _=>match Nat.beq v.cells.length size&&v.cells.all AV.one&&Nat.ble (off+size) l.length with
         | true=>fl (setFrom l off v.cells) (fun l'=>lS H p (.cells l' e) (fun H'=>K aP H'))
         | false=>False
       | some (.row _ _)=>ai E P m S t H (.store ty a v') K
       | _=>False
     | some (.lit (.pointer _)),some _=>ai E P m S t H (.store ty a v') K
     | _,_=>False
   | .assign x=>match aE t x with
     | some v=>K v H
     | none=>False
   | .box e x=>match aE t x with
     | some v=>match Nat.blt H.length aU with
       | true=>fl v.cells fun l=>pg H (.cells l e) fun H'=>oc (qb H 0) fun n=>K (.ptr n 0) H'
       | false=>False
     | none=>False
   | .call c=>match c.callee with
     | .builtin b=>match b with
       | .append=>match jN t c.args.toList with
         | some [s,x]=>match c.argTypes.toList with
           | [ty,xt]=>match E.ty xt with
             | some xr=>match xr.bg with
               | .int _=>False
               | _=>match EV s || EV x with
                 | true=>ai E P m S t H (.call c) K
                 | false=>dP E P m S t c ty s x H K
             | none=>False
           | _=>False
         | _=>False
       | b=>match jN t c.args.toList with
         | some args=>match gp E (hp H) b c.argTypes.toList args with
           | some (.pure v)=>K v H
           | some (.read v)=>K v H
           | _=>False
         | none=>False
     | _=>match bz E t (hp H) (.call c) with
       | some (.call f args)=>fl args (fun args=>ag P S f args H K)
       | _=>False
   | op=>match bz E t (hp H) op with
     | some (.pure v)=>K v H
     | some (.read v)=>K v H
     | some (.new ob k)=>match Nat.blt H.length aU with
       | true=>TH ob (fun ob=>pg H ob (fun H'=>oc (qb H 0) fun n=>K (k.val n) H'))
       | false=>False
     | _=>False
def qN(P:Program)(S:List Nat)(all:List Oper)(o:Oper)(t:ax)(H:List af)(K:AV->List af->Prop):Prop:=
 match cY all t o with
 | none=>False
 | some false=>K aP H
 | some true=>Rj E P true S t H K o.op
def wpOps(P:Program)(n:Nat)(all:List Oper):List Oper->ax->List af->(ax->List af->Prop)->Prop
 | [],t,H,K=>K t H
 | o::rest,t,H,K=>qN E P [] all o t H (fun v H'=>fv v (fun v=>q8 n o.dst t v (fun t'=>wpOps P n all rest t' H' K)))
def aF(P:Program)(n k:Nat):Code->ax->List af->(fp->ax->List af->Prop)->Prop
 | .skip,t,H,Q=>Q .normal t H
 | .label _,t,H,Q=>Q .normal t H
 | .ret,t,H,Q=>Q .ret t H
 | .exit id,t,H,Q=>Q (.exit id) t H
 | .goto l,t,H,Q=>Q (.goto l) t H
 | .region id ops draw,t,H,Q=>match draw with
   | false=>wpOps E P n ops.toList ops.toList t H (fun t H=>Q .normal t H)
   | true=>aJ P n k (.region id ops true) t H Q
 | .seq a b,t,H,Q=>aF P n k a t H (fun e t H=>match e with
   | .normal=>aF P n k b t H Q
   | .exit id=>Q (.exit id) t H
   | .goto l=>Q (.goto l) t H
   | .ret=>Q .ret t H)
 | .cond c a b,t,H,Q=>match aE t c with
   | some (.lit (.bool v))=>match v with
     | true=>aF P n k a t H Q
     | false=>aF P n k b t H Q
   | _=>False
 | .block id b,t,H,Q=>aF P n k b t H (fun e t H=>match e with
   | .exit xC=>match Nat.beq xC id with
     | true=>Q .normal t H
     | false=>Q (.exit xC) t H
   | .normal=>Q .normal t H
   | .goto l=>Q (.goto l) t H
   | .ret=>Q .ret t H)
 | .loop b,t,H,Q=>aJ P n k (.loop b) t H Q
 | .scope b,t,H,Q=>aF P n k b t H (fun e t H=>match e with
   | .goto _=>False
   | .exit id=>Q (.exit id) t H
   | .normal=>Q .normal t H
   | .ret=>Q .ret t H)
 | _,_,_,_=>False
def DB(t:ax)(H:List af):List ResultVar->(List AV->Prop)->Prop
 | [],L=>L []
 | .tmp i::rs,L=>match t.get i with
   | some v=>DB t H rs fun l=>L (v::l)
   | none=>False
 | .cell a ty::rs,L=>match t.get a with
   | some (.ptr o off)=>match H[o]? with
     | some (.cells l _)=>Bo E ty l off fun v=>DB t H rs fun l=>L (v::l)
     | _=>False
   | _=>False
def Gm(fn:Func)(K:AV->List af->Prop):fp->ax->List af->Prop:=fun e t H=>match e with
 | .normal|.ret=>DB E t H fn.results.toList fun l=>match l with
   | [v]=>fv v fun v=>K v H
   | []=>K aP H
   | l=>K (.tuple l) H
 | _=>False
def eP(P:Program)(fn:Func)(args:List AV)(H:List af)(K:AV->List af->Prop):Prop:=
 match fn.body with
 | none=>False
 | some c=>match Nat.ble args.length fn.ntmps&&Nat.ble fn.ntmps 65536 with
   | true=>aF E P fn.ntmps H.length c (setArgs 0 args .e) H (Gm E fn K)
   | false=>False
end
end Go.Proofs.YtmbdghclhpboaaaGreat.Ev
