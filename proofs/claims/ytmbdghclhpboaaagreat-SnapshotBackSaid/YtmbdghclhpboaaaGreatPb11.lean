/- Part of the proof: EvW SyA. Conditions: as each states. -/
import Derived.Test.YtmbdghclhpboaaaGreatPb10
set_option linter.all false
namespace Go.Proofs.YtmbdghclhpboaaaGreat.Ev
def AExit.ex:AExit→Exit
 | .normal=>.normal
 | .exit id=>.exit id
 | .goto l=>.goto l
 | .ret=>.ret
theorem noHv_ok(P:Program):CbOk P noHv:=fun f args σ v σ' h=>by simp[noHv] at h
section
variable{F:Frz}{P:Program}{E:Env}(hE:EnvOk P E)
include hE
theorem regionA_ok{cb:Cb}(hcb:CbOk P cb){n id:Nat}(hn:n≤lim){ops:Array Oper}{draw:Bool}{t t':Tmps}{σ σ':AS}(h:regionA E cb n ops draw t σ=some (t',σ')){γ:Gam}{w:World}{a:Act}(hR:RelL F γ σ w)(hT:ConcT γ n t a){Q:Exit→Act→World→Prop}
  (hQ:∀γ' a' w',RelL F γ' σ' w'→ConcT γ' n t' a'→Step γ σ γ' σ'→Q .normal a' w'):(Code.region id ops draw).wp P Q a w:=by
 unfold regionA at h
 cases draw with
 | false=>
   simp only[] at h
   refine wp_region ?_
   have:=runA_ok hE hcb hn (Q:=Q) ops.toList 0 t t' σ σ' γ w a h (by simp) hR hT hQ
   simpa using this
 | true=>
   simp only[] at h
   split at h
   ·cases h
   ·rename_i hi
    have hrows:=rows_ok hi
    refine wp_region_any hE.wide ?_
    refine drawn_ok hE hrows hn hcb (γ0:=γ) (σ0:=σ) hQ ops.size _ 0 _ [] t σ (fun _=>.no) γ _ a _ h ?_ ?_
    ·have hno:∀q,¬Pending 0 (Array.replicate ops.size false) q:=fun q hq=>by have:=hq.1;rw[has_zero] at this;cases this
     have hlist:∀j,(Array.replicate ops.size false).getD j false=false:=fun j=>by simp[Array.getElem?_replicate];split<;>rfl
     refine ⟨fun r hr=>⟨hr,has_zero _⟩,fun r hr=>.inr hr,?_,fun r _ h=>(by rw[has_zero] at h;cases h),fun r _ h=>(by rw[hlist] at h;cases h),(by simp),fun q _ hq=>absurd hq (hno q),fun q _ _ _ hq=>absurd hq (hno q),fun q _ hq=>absurd hq (hno q),hR.heap rfl,.refl _ _,⟨hT.size,hT.defers,fun i v hv=>hT.get i v ?_⟩⟩
     ·have:∀(l:List Oper) (i:Nat),(rowsFrom ops i l).Pairwise (fun r q=>r.i≠q.i)∧∀r∈rowsFrom ops i l,i≤r.i:=by
       intro l
       induction l with
       | nil=>intro i;simp[rowsFrom]
       | cons o l ih=>
         intro i
         obtain ⟨h1,h2⟩:=ih (i+1)
         simp only[rowsFrom,List.pairwise_cons]
         refine ⟨⟨fun r hr=>?_,h1⟩,fun r hr=>?_⟩
         ·have:=h2 r hr;show i≠r.i;omega
         ·rcases List.mem_cons.1 hr with rfl|hr
          ·exact Nat.le_refl i
          ·have:=h2 r hr;omega
      exact (this ops.toList 0).1
     ·rw[T.get_mask] at hv
      split at hv
      ·cases hv
      ·exact hv
    ·exact Nat.le_trans List.count_le_length (by simp)
theorem evCode_ok{cb:Cb}(hcb:CbOk P cb){n:Nat}(hn:n≤lim):∀(f:Nat) (c:Code) (t:Tmps) (σ:AS) (e:AExit) (t':Tmps) (σ':AS),evCode E cb n f c t σ=some (e,t',σ') →
  ∀(γ:Gam) (w:World) (a:Act) (Q:Exit→Act→World→Prop),RelL F γ σ w→ConcT γ n t a→(∀γ' a' w',RelL F γ' σ' w'→ConcT γ' n t' a'→Step γ σ γ' σ'→Q e.ex a' w')→c.wp P Q a w:=by
 intro f
 induction f using Nat.strongRecOn with
 | _ f ih=>
 intro c t σ e t' σ' h γ w a Q hR hT hQ
 cases f with
 | zero=>simp[evCode] at h
 | succ f=>
 have ih0:=ih f (Nat.lt_succ_self f)
 have hpart:∀{b:Code} {t1:Tmps} {σ1:AS} {e1:AExit},evCode E cb n f b t σ=some (e1,t1,σ1)→∀{Q1:Exit→Act→World→Prop},(∀γ1 a1 w1,RelL F γ1 σ1 w1→ConcT γ1 n t1 a1→Step γ σ γ1 σ1→Q1 e1.ex a1 w1)→b.wp P Q1 a w:=
  fun hb _ hq=>ih0 _ _ _ _ _ _ hb γ w a _ hR hT hq
 cases c
 case skip=>
  simp only[evCode,Option.some.injEq,Prod.mk.injEq] at h
  obtain ⟨rfl,rfl,rfl⟩:=h
  exact wp_skip (hQ γ a w hR hT (.refl _ _))
 case label l=>
  simp only[evCode,Option.some.injEq,Prod.mk.injEq] at h
  obtain ⟨rfl,rfl,rfl⟩:=h
  exact wp_label (hQ γ a w hR hT (.refl _ _))
 case ret=>
  simp only[evCode,Option.some.injEq,Prod.mk.injEq] at h
  obtain ⟨rfl,rfl,rfl⟩:=h
  exact wp_ret (hQ γ a w hR hT (.refl _ _))
 case exit id=>
  simp only[evCode,Option.some.injEq,Prod.mk.injEq] at h
  obtain ⟨rfl,rfl,rfl⟩:=h
  exact wp_exit (hQ γ a w hR hT (.refl _ _))
 case goto l=>
  simp only[evCode,Option.some.injEq,Prod.mk.injEq] at h
  obtain ⟨rfl,rfl,rfl⟩:=h
  exact wp_goto (hQ γ a w hR hT (.refl _ _))
 case region id ops draw=>
  simp only[evCode] at h
  obtain ⟨⟨t1,σ1⟩,h1,h2⟩:=Option.map_eq_some_iff.1 h
  simp only[Prod.mk.injEq] at h2
  obtain ⟨rfl,rfl,rfl⟩:=h2
  exact regionA_ok hE hcb hn h1 hR hT hQ
 case seq x y=>
  simp only[evCode] at h
  refine wp_seq ?_
  split at h
  ·rename_i t1 σ1 h1
   exact hpart h1 fun γ1 a1 w1 hR1 hT1 hS1=>ih0 _ _ _ _ _ _ h γ1 w1 a1 _ hR1 hT1 fun γ2 a2 w2 hR2 hT2 hS2=>hQ γ2 a2 w2 hR2 hT2 (hS1.trans hS2)
  ·rename_i hne
   refine hpart h fun γ1 a1 w1 hR1 hT1 hS1=>?_
   have:=hQ γ1 a1 w1 hR1 hT1 hS1
   cases e with
   | normal=>exact absurd h (hne _ _)
   | _=>exact this
 case cond c x y=>
  simp only[evCode] at h
  split at h
  ·rename_i hc
   have:=hT.opnd _ _ hc
   rw[conc_lit_iff] at this
   exact wp_cond_true this (hpart h hQ)
  ·rename_i hc
   have:=hT.opnd _ _ hc
   rw[conc_lit_iff] at this
   exact wp_cond_false this (hpart h hQ)
  ·cases h
 case block id b=>
  simp only[evCode] at h
  refine wp_block ?_
  split at h
  ·rename_i id' t1 σ1 h1
   refine hpart h1 fun γ1 a1 w1 hR1 hT1 hS1=>?_
   simp only[AExit.ex,Exit.inBlock]
   split at h<;>rename_i hb<;>simp only[Option.some.injEq,Prod.mk.injEq] at h<;>obtain ⟨rfl,rfl,rfl⟩:=h
   ·rw[if_pos (Nat.eq_of_beq_eq_true hb)];exact hQ γ1 a1 w1 hR1 hT1 hS1
   ·rw[if_neg (Nat.ne_of_beq_eq_false hb)];exact hQ γ1 a1 w1 hR1 hT1 hS1
  ·rename_i hne
   refine hpart h fun γ1 a1 w1 hR1 hT1 hS1=>?_
   have:=hQ γ1 a1 w1 hR1 hT1 hS1
   cases e with
   | exit id'=>exact absurd h (hne _ _ _)
   | _=>exact this
 case loop b=>
  have key:∀(m:Nat),m≤f+1→∀(t:Tmps) (σ:AS),evCode E cb n m (.loop b) t σ=some (e,t',σ')→∀(γ1:Gam) (w:World) (a:Act),RelL F γ1 σ w→ConcT γ1 n t a→(∀γ' a' w',RelL F γ' σ' w'→ConcT γ' n t' a'→Step γ1 σ γ' σ'→Q e.ex a' w')→Code.rounds P b Q m a w:=by
   intro m
   induction m with
   | zero=>intro _ t σ h;simp[evCode] at h
   | succ m ihm=>
     intro hm t σ h γ1 w a hR hT hQ
     simp only[evCode] at h
     rw[rounds_succ]
     split at h
     ·rename_i t1 σ1 h1
      exact ih m (by omega) _ _ _ _ _ _ h1 γ1 w a _ hR hT fun γ2 a2 w2 hR2 hT2 hS2=>ihm (by omega) t1 σ1 h γ2 w2 a2 hR2 hT2 fun γ3 a3 w3 hR3 hT3 hS3=>hQ γ3 a3 w3 hR3 hT3 (hS2.trans hS3)
     ·rename_i hne
      refine ih m (by omega) _ _ _ _ _ _ h γ1 w a _ hR hT fun γ2 a2 w2 hR2 hT2 hS2=>?_
      have:=hQ γ2 a2 w2 hR2 hT2 hS2
      cases e with
      | normal=>exact absurd h (hne _ _)
      | _=>exact this
  exact wp_loop_rounds (f+1) (key (f+1) (Nat.le_refl _) t σ h γ w a hR hT hQ)
 case scope b=>
  simp only[evCode] at h
  refine wp_scope_straight ?_
  split at h
  ·cases h
  ·rename_i hne
   refine hpart h fun γ1 a1 w1 hR1 hT1 hS1=>?_
   have:=hQ γ1 a1 w1 hR1 hT1 hS1
   cases e with
   | goto l=>exact absurd h (hne _ _ _)
   | _=>exact this
 all_goals simp[evCode] at h
omit hE in
theorem setArgs_get:∀(l:List AV) (k:Nat) (t:Tmps) (i:Nat),k+l.length≤lim→(setArgs k l t).get i=if k≤i∧i<k+l.length then l[i - k]? else t.get i
 | [],k,t,i,_=>by
   simp only[setArgs,List.length_nil]
   rw[if_neg (by omega)]
 | v::l,k,t,i,h=>by
   simp only[setArgs,List.length_cons] at h ⊢
   rw[setArgs_get l (k+1) _ i (by omega),T.get_put _ _ _ _ (by omega)]
   by_cases e:i=k
   ·subst e
    rw[if_neg (by omega),if_pos rfl,if_pos (by omega)]
    simp
   ·by_cases hr:k+1≤i∧i<k+1+l.length
    ·rw[if_pos hr,if_pos (by omega)]
     rw[show i - k=(i - (k+1))+1 by omega,List.getElem?_cons_succ]
    ·rw[if_neg hr,if_neg e,if_neg (by omega)]
theorem resultA_ok{γ:Gam}{σ:AS}{w:World}{n:Nat}{t:Tmps}{a:Act}(hR:RelL F γ σ w)(hT:ConcT γ n t a){r:ResultVar}{v:AV}(h:resultA E t σ r=some v) :
  ∃x,((match r with|.tmp i=>pure (a.tmps.getD i undef)|.cell b ty=>do loadVar ty (←asAddr (a.tmps.getD b undef)):Sem Value)).run P w=.ok x w∧Conc γ v x:=by
 cases r with
 | tmp i=>
   simp only[resultA] at h
   obtain ⟨x,h1,h2⟩:=hT.get i v h
   exact ⟨x,by simp[h1],h2⟩
 | cell b ty=>
   simp only[resultA] at h
   split at h
   ·rename_i o off hb
    obtain ⟨x,h1,h2⟩:=hT.get b _ hb
    simp only[Conc] at h2
    obtain ⟨ad,rfl,hat⟩:=h2
    obtain ⟨y,h3,h4⟩:=load_ok hE hR.toRel h hat
    exact ⟨y,by simp[h1,asAddr,h3],h4⟩
   ·cases h
theorem results_list{γ:Gam}{σ:AS}{w:World}{n:Nat}{t:Tmps}{a:Act}(hR:RelL F γ σ w)(hT:ConcT γ n t a):∀{l:List ResultVar} {vs:List AV},allSome (l.map (resultA E t σ))=some vs →
  ∃xs,(l.mapM (fun r=>match r with|.tmp i=>pure (a.tmps.getD i undef)|.cell b ty=>do loadVar ty (←asAddr (a.tmps.getD b undef)):ResultVar→Sem Value)).run P w=.ok xs w∧Concs γ vs xs
 | [],vs,h=>by
   simp only[List.map_nil,allSome,Option.some.injEq] at h
   subst h
   exact ⟨[],by simp,by simp[Concs]⟩
 | r::l,vs,h=>by
   simp only[List.map_cons] at h
   cases hr:resultA E t σ r with
   | none=>rw[hr] at h;simp[allSome] at h
   | some v=>
     rw[hr] at h
     simp only[allSome] at h
     cases hl:allSome (l.map (resultA E t σ)) with
     | none=>rw[hl] at h;simp at h
     | some vs'=>
       rw[hl] at h
       simp only[Option.some.injEq] at h
       subst h
       obtain ⟨x,h1,h2⟩:=resultA_ok hE hR hT hr
       obtain ⟨xs,h3,h4⟩:=results_list hR hT hl
       refine ⟨x::xs,?_,?_⟩
       ·rw[List.mapM_cons,Sem.run_bind,h1,Result.andThen_ok,Sem.run_bind,h3,Result.andThen_ok]
        rfl
       ·simp only[Concs];exact ⟨x,xs,rfl,h2,h4⟩
theorem results_ok{γ:Gam}{σ:AS}{w:World}{n:Nat}{t:Tmps}{a:Act}(hR:RelL F γ σ w)(hT:ConcT γ n t a){fn:Func}{v:AV}(h:resultsA E t σ fn.results.toList=some v) :
  ∃x,(results fn a.tmps).run P w=.ok x w∧Conc γ v x:=by
 unfold resultsA at h
 have hrun:∀xs,(fn.results.toList.mapM (fun r=>match r with|.tmp i=>pure (a.tmps.getD i undef)|.cell b ty=>do loadVar ty (←asAddr (a.tmps.getD b undef)):ResultVar→Sem Value)).run P w=.ok xs w →
   (results fn a.tmps).run P w=.ok (if h:xs.toArray.size=1 then xs.toArray[0] else .tuple xs.toArray) w:=by
  intro xs hx
  unfold results
  rw[Sem.run_bind,Array.mapM_eq_mapM_toList,Sem.run_map]
  have hx':(fn.results.toList.mapM (fun|.tmp t=>pure (a.tmps.getD t undef)|.cell b t=>do loadVar t (←asAddr (a.tmps.getD b undef)):ResultVar→Sem Value)).run P w=.ok xs w:=hx
  erw [hx']
  rfl
 split at h
 ·rename_i u hl
  simp only[Option.some.injEq] at h;subst h
  obtain ⟨xs,h1,h2⟩:=results_list hE hR hT hl
  simp only[Concs] at h2
  obtain ⟨x,xs',rfl,hx,rfl⟩:=h2
  exact ⟨x,by rw[hrun _ h1];rfl,hx⟩
 ·rename_i hl
  simp only[Option.some.injEq] at h;subst h
  obtain ⟨xs,h1,h2⟩:=results_list hE hR hT hl
  simp only[Concs] at h2
  subst h2
  exact ⟨_,hrun _ h1,conc_lit γ _⟩
 ·rename_i l hne1 hne0 hl
  simp only[Option.some.injEq] at h;subst h
  obtain ⟨xs,h1,h2⟩:=results_list hE hR hT hl
  refine ⟨_,hrun _ h1,?_⟩
  have hlen:=concs_length h2
  rw[dif_neg (by
   intro e
   simp at e
   rw[hlen] at e
   obtain ⟨u,rfl⟩:=List.length_eq_one_iff.1 e
   exact hne1 u rfl)]
  simp only[Conc]
  exact ⟨_,rfl,by simpa using h2⟩
 ·cases h
theorem evCall_ok{hv:Cb}(hov:CbOk P hv):∀d,CbOk P (evCall E hv d)
 | 0=>fun f args σ v σ' h=>by simp[evCall] at h
 | d+1=>fun f args σ v σ' h F γ w xs hR hxs=>by
   simp only[evCall] at h
   cases hv:hv f args σ with
   | some r=>
     obtain ⟨u,τ⟩:=r
     rw[hv] at h
     simp only[Option.some.injEq,Prod.mk.injEq] at h
     obtain ⟨rfl,rfl⟩:=h
     exact hov f args σ u τ hv F γ w xs hR hxs
   | none=>
   rw[hv] at h
   simp only[] at h
   cases hf:E.fn f with
   | none=>rw[hf] at h;cases h
   | some fn=>
     rw[hf] at h
     simp only[] at h
     obtain ⟨hfn,hcall⟩:=hE.fn f fn hf
     refine ⟨hcall xs w,fun R hRet=>?_⟩
     cases hb:fn.body with
     | none=>rw[hb] at h;cases h
     | some c=>
       rw[hb] at h
       simp only[] at h
       split at h
       ·cases h
       ·rename_i hle
        simp only[Bool.and_eq_true] at hle
        have h1:=Nat.le_of_ble_eq_true hle.1
        have h2:=Nat.le_of_ble_eq_true hle.2
        have hlen:=concs_length hxs
        have hsz:xs.size=args.length:=by simpa using hlen
        have hlim:fn.ntmps≤lim:=by unfold lim;omega
        have hT:ConcT γ fn.ntmps (setArgs 0 args .e) { tmps:=xs++Array.replicate (fn.ntmps - xs.size) undef,defers:=[] }:=by
         refine ⟨by simp;omega,rfl,fun i u hu=>?_⟩
         rw[setArgs_get _ _ _ _ (by omega)] at hu
         split at hu
         ·rename_i hi
          obtain ⟨x,h3,h4⟩:=concs_get hxs i u (by simpa using hu)
          refine ⟨x,?_,h4⟩
          simp only[]
          rw[Array.getElem?_append_left (by omega)]
          simpa using h3
         ·simp[T.get] at hu
        refine calls_of_wp hfn hb ?_
        split at h
        ·rename_i t1 σ1 hc
         obtain ⟨u,hu,hu'⟩:=Option.map_eq_some_iff.1 h
         simp only[Prod.mk.injEq] at hu'
         obtain ⟨rfl,rfl⟩:=hu'
         refine evCode_ok hE (evCall_ok hov d) hlim _ _ _ _ _ _ _ hc γ w _ _ hR hT fun γ' a' w' hR' hT' hS'=>?_
         obtain ⟨x,h3,h4⟩:=results_ok hE hR' hT' hu
         exact ⟨hT'.defers,x,h3,hRet γ' x w' h4 hR' hS'⟩
        ·rename_i t1 σ1 hc
         obtain ⟨u,hu,hu'⟩:=Option.map_eq_some_iff.1 h
         simp only[Prod.mk.injEq] at hu'
         obtain ⟨rfl,rfl⟩:=hu'
         refine evCode_ok hE (evCall_ok hov d) hlim _ _ _ _ _ _ _ hc γ w _ _ hR hT fun γ' a' w' hR' hT' hS'=>?_
         obtain ⟨x,h3,h4⟩:=results_ok hE hR' hT' hu
         exact ⟨hT'.defers,x,h3,hRet γ' x w' h4 hR' hS'⟩
        ·cases h
end
abbrev brP(b:Bool)(X Y:Prop):Prop:=@Bool.rec (fun _=>Prop) Y X b
theorem brP_of{b:Bool}{X Y:Prop}(h1:b=true→X)(h2:b=false→Y):@Bool.rec (fun _=>Prop) Y X b:=by cases b;exact h2 rfl;exact h1 rfl
def vw:AObj→AObj
 | .row xs e=>.cells (xs.map .lit) e
 | .res _=>.dead
 | ob=>ob
def ofL:Nat→List AObj→T AObj→T AObj
 | _,[],t=>t
 | k,a::l,t=>ofL (k+1) l (t.put k (vw a))
def hp(H:List AObj):AS:=⟨ofL 0 H .e,H.length⟩
def fl{α:Type}:List α→(List α→Prop)→Prop
 | [],K=>K []
 | a::l,K=>fl l (fun l'=>K (a::l'))
def snocK{α:Type}:List α→α→(List α→Prop)→Prop
 | [],x,K=>K [x]
 | a::l,x,K=>snocK l x (fun l'=>K (a::l'))
def setK{α:Type}:List α→Nat→α→(List α→Prop)→Prop
 | [],_,_,K=>K []
 | a::l,i,x,K=>match i with
   | 0=>K (x::l)
   | i+1=>setK l i x (fun l=>K (a::l))
def fOb:AObj→(AObj→Prop)→Prop
 | .cells l e,K=>fl l (fun l'=>K (.cells l' e))
 | .map es c,K=>fl es (fun l'=>K (.map l' c))
 | ob,K=>K ob
def fv:AV→(AV→Prop)→Prop
 | .lit u,K=>match u with
   | .bool b=>brP b (K (.lit (.bool true))) (K (.lit (.bool false)))
   | .int k n=>K (.lit (.int k n))
   | .string s=>K (.lit (.string s))
   | u=>K (.lit u)
 | .agg l,K=>fl l (fun l=>K (.agg l))
 | .tuple l,K=>fl l (fun l=>K (.tuple l))
 | .ptr o off,K=>K (.ptr o off)
 | .slice o off len c,K=>K (.slice o off len c)
 | .map o,K=>K (.map o)
 | .func f a b,K=>K (.func f a b)
 | .iface t v,K=>K (.iface t v)
def natF(n:Nat)(K:Nat→Prop):Prop:=match n with
 | 0=>K 0
 | 1=>K 1
 | 2=>K 2
 | 3=>K 3
 | 4=>K 4
 | 5=>K 5
 | 6=>K 6
 | 7=>K 7
 | 8=>K 8
 | 9=>K 9
 | 10=>K 10
 | 11=>K 11
 | 12=>K 12
 | 13=>K 13
 | 14=>K 14
 | 15=>K 15
 | 16=>K 16
 | 17=>K 17
 | 18=>K 18
 | 19=>K 19
 | 20=>K 20
 | 21=>K 21
 | 22=>K 22
 | 23=>K 23
 | 24=>K 24
 | 25=>K 25
 | 26=>K 26
 | 27=>K 27
 | 28=>K 28
 | 29=>K 29
 | 30=>K 30
 | 31=>K 31
 | 32=>K 32
 | 33=>K 33
 | 34=>K 34
 | 35=>K 35
 | 36=>K 36
 | 37=>K 37
 | 38=>K 38
 | 39=>K 39
 | 40=>K 40
 | 41=>K 41
 | 42=>K 42
 | 43=>K 43
 | 44=>K 44
 | 45=>K 45
 | 46=>K 46
 | 47=>K 47
 | n=>K n
def cnt{α:Type}:List α→Nat→Nat
 | [],n=>n
 | _::l,n=>cnt l (n+1)
def tpK{α:Type}:Nat→T α→Nat→α→(T α→Prop)→Prop
 | 0,t,_,_,K=>K t
 | f+1,.e,i,a,K=>match i with
   | 0=>K (.n (some a) .e .e)
   | i+1=>match Nat.beq (i % 2) 0 with
     | true=>tpK f .e (i / 2) a (fun l=>K (.n none l .e))
     | false=>tpK f .e (i / 2) a (fun r=>K (.n none .e r))
 | f+1,.n v l r,i,a,K=>match i with
   | 0=>K (.n (some a) l r)
   | i+1=>match Nat.beq (i % 2) 0 with
     | true=>tpK f l (i / 2) a (fun l=>K (.n v l r))
     | false=>tpK f r (i / 2) a (fun r=>K (.n v l r))
def putK(n:Nat)(d:Option Nat)(t:Tmps)(v:AV)(K:Tmps→Prop):Prop:=
 match d with
 | none=>K t
 | some d=>match Nat.blt d n with
   | true=>tpK 21 t d v K
   | false=>False
theorem fl_eq{α:Type}:∀(l:List α) (K:List α→Prop),fl l K=K l
 | [],_=>rfl
 | a::l,K=>fl_eq l (fun l'=>K (a::l'))
theorem snocK_eq{α:Type}(x:α):∀(l:List α) (K:List α→Prop),snocK l x K=K (l++[x])
 | [],_=>rfl
 | a::l,K=>snocK_eq x l (fun l'=>K (a::l'))
theorem setK_eq{α:Type}(x:α):∀(l:List α) (i:Nat) (K:List α→Prop),setK l i x K=K (l.set i x)
 | [],_,_=>rfl
 | _::_,0,_=>rfl
 | a::l,i+1,K=>setK_eq x l i (fun l'=>K (a::l'))
theorem fOb_eq(ob:AObj)(K:AObj→Prop):fOb ob K=K ob:=by
 cases ob<;>first|rfl|exact fl_eq _ _
theorem fv_ok{v:AV}{K:AV→Prop}(h:fv v K):K v:=by
 unfold fv at h
 split at h
 ·split at h
  ·rename_i b
   cases b<;>exact h
  ·exact h
  ·exact h
  ·exact h
 ·rwa [fl_eq] at h
 ·rwa [fl_eq] at h
 ·exact h
 ·exact h
 ·exact h
 ·exact h
 ·exact h
theorem natF_eq(n:Nat)(K:Nat→Prop):natF n K=K n:=by
 unfold natF
 split<;>rfl
theorem cnt_eq{α:Type}:∀(l:List α) (n:Nat),cnt l n=n+l.length
 | [],_=>rfl
 | _::l,n=>by simp only[cnt,cnt_eq l,List.length_cons];omega
theorem tpK_eq{α:Type}(a:α):∀(f:Nat) (t:T α) (i:Nat) (K:T α→Prop),tpK f t i a K=K (T.set f t i a)
 | 0,_,_,_=>rfl
 | f+1,.e,i,K=>by
   cases i with
   | zero=>rfl
   | succ i=>
     simp only[tpK,T.set]
     cases Nat.beq (i % 2) 0<;>exact tpK_eq a f _ _ _
 | f+1,.n v l r,i,K=>by
   cases i with
   | zero=>rfl
   | succ i=>
     simp only[tpK,T.set]
     cases Nat.beq (i % 2) 0<;>exact tpK_eq a f _ _ _
theorem putK_ok{n:Nat}{d:Option Nat}{t:Tmps}{v:AV}{K:Tmps→Prop}(h:putK n d t v K):∃t',putA n t d v=some t'∧K t':=by
 unfold putK at h
 unfold putA
 split at h
 ·exact ⟨t,rfl,h⟩
 ·split at h
  ·rename_i hb
   rw[tpK_eq] at h
   exact ⟨_,by simp only[hb];rfl,h⟩
  ·exact h.elim
theorem ofL_get:∀(H:List AObj) (k:Nat) (t:T AObj) (o:Nat),k+H.length≤lim→(ofL k H t).get o=if k≤o∧o<k+H.length then (H[o - k]?).map vw else t.get o
 | [],k,t,o,_=>by rw[if_neg (by simp only[List.length_nil];omega)];rfl
 | a::H,k,t,o,h=>by
   simp only[List.length_cons] at h
   simp only[ofL]
   rw[ofL_get H (k+1) _ o (by omega),T.get_put _ _ _ _ (by omega)]
   by_cases e:o=k
   ·subst e
    rw[if_neg (by omega),if_pos rfl,if_pos (by simp)]
    simp
   ·by_cases h1:k+1≤o∧o<k+1+H.length
    ·rw[if_pos h1,if_pos (by simp;omega),show o - k=(o - (k+1))+1 by omega,List.getElem?_cons_succ]
    ·rw[if_neg h1,if_neg e,if_neg (by simp;omega)]
theorem hp_get{H:List AObj}(h:H.length≤lim)(o:Nat):(hp H).heap.get o=(H[o]?).map vw:=by
 unfold hp
 simp only[]
 rw[ofL_get H 0 .e o (by omega)]
 split
 ·simp
 ·rw[List.getElem?_eq_none (by omega)]
  rfl
structure HpEq(σ:AS)(H:List AObj):Prop where
 next:σ.next=H.length
 get:∀o,σ.heap.get o=(H[o]?).map vw
theorem RelL.congr{F:Frz}{γ:Gam}{σ τ:AS}{w:World}(h:RelL F γ σ w)(hn:σ.next=τ.next)(hg:∀o,o<σ.next→τ.heap.get o=σ.heap.get o):RelL F γ τ w:=by
 have hd:∀{o q},γ o=some q→o<σ.next:=fun {o q} hq=>by
  rcases Nat.lt_or_ge o σ.next with h1|h1
  ·exact h1
  ·rw[h.dom o h1] at hq;cases hq
 refine ⟨⟨fun o ho=>h.dom o (by omega),fun o p hp=>?_,fun o ho=>?_,h.inj,by have:=h.lim;omega⟩,fun o p hp=>?_,h.frame⟩
 ·rw[hg o (hd hp)];exact h.obj o p hp
 ·rw[hg o (hd ho)];exact h.gone o ho
 ·rw[hg o (hd hp)];exact h.live o p hp
theorem RelL.toH{F:Frz}{γ:Gam}{σ:AS}{w:World}{H:List AObj}(h:RelL F γ σ w)(e:HpEq σ H):RelL F γ (hp H) w:=
 h.congr e.next fun o ho=>by
  have hl:=h.lim
  rw[hp_get (by have:=e.next;omega)]
  exact (e.get o).symm
def resNil:Res:=⟨fun _ S=>∀b,¬S b,fun h hb=>absurd hb (h _),fun h _=>h⟩
def rsOf:AObj→Res
 | .res R=>R
 | _=>resNil
def rss(H:List AObj):List Res:=H.map rsOf
def Ent(L M:List Res):Prop:=∀w T,stars L w T→∃T':Nat→Prop,(∀b,T' b→T b)∧stars M w T'
theorem Ent.refl(L:List Res):Ent L L:=fun _ T h=>⟨T,fun _ h=>h,h⟩
theorem Ent.trans{L M N:List Res}(h:Ent L M)(k:Ent M N):Ent L N:=fun w T ht=>by
 obtain ⟨T1,h1,h2⟩:=h w T ht
 obtain ⟨T2,h3,h4⟩:=k w T1 h2
 exact ⟨T2,fun b hb=>h1 b (h3 b hb),h4⟩
theorem Ent.of_eq{L M:List Res}(h:L=M):Ent L M:=h ▸ Ent.refl L
theorem ent_snoc{H:List AObj}{ob:AObj}(h:rsOf ob=resNil):Ent (rss H) (rss (H++[ob])):=fun w T ht=>⟨T,fun _ h=>h,by
 unfold rss
 rw[List.map_append]
 refine stars_append.2 ⟨T,fun _=>False,ht,⟨fun _=>False,fun _=>False,?_,fun _ h=>h,fun _ h _=>h,fun b=>by simp⟩,fun _ _ h=>h,fun b=>by simp⟩
 rw[h]
 exact fun _ h=>h⟩
theorem rss_set{H:List AObj}{o:Nat}{a ob:AObj}(ho:H[o]?=some a)(h:rsOf ob=rsOf a):rss (H.set o ob)=rss H:=by
 unfold rss
 rw[List.map_set,h]
 apply List.ext_getElem?
 intro i
 rw[List.getElem?_set]
 split
 ·rename_i e
  subst e
  rw[List.getElem?_map,ho]
  obtain ⟨hl,_⟩:=List.getElem?_eq_some_iff.1 ho
  simp[hl]
 ·rfl
structure Rs(F:Frz)(γ:Gam)(H:List AObj)(w:World):Prop where
 out:∃T,stars (rss H) w T∧∀b,T b→¬F.fz b∧∀o p,γ o=some (some p)→p.block≠b
theorem Rs.ent{F:Frz}{γ:Gam}{H H':List AObj}{w:World}(h:Rs F γ H w)(e:Ent (rss H) (rss H')):Rs F γ H' w:=by
 obtain ⟨T,h1,h2⟩:=h.out
 obtain ⟨T',h3,h4⟩:=e w T h1
 exact ⟨T',h4,fun b hb=>h2 b (h3 b hb)⟩
theorem reframe{F:Frz}{γ:Gam}{σ:AS}{H:List AObj}{w:World}(hR:RelL F γ σ w)(hs:Rs F γ H w):∃F',RelL F' γ σ w∧∀γ' σ' w',RelL F' γ' σ' w'→RelL F γ' σ' w'∧∀H',Ent (rss H) (rss H')→Rs F γ' H' w':=by
 obtain ⟨T,h1,h2⟩:=hs.out
 refine ⟨⟨w,fun b=>b<w.heap.size∧(F.fz b∨T b)⟩,⟨hR.toRel,hR.live,⟨rfl,rfl,rfl,Nat.le_refl _,fun b h=>h.1,fun b _=>rfl,fun o p hp h=>h.2.elim (hR.frame.own o p hp) (fun h=>(h2 _ h).2 o p hp rfl)⟩⟩,fun γ' σ' w' hR'=>?_⟩
 have hF:=hR.frame
 have hF':=hR'.frame
 have hb:∀b,F.fz b→b<w.heap.size:=fun b h=>Nat.lt_of_lt_of_le (hF.old b h) hF.size
 refine ⟨⟨hR'.toRel,hR'.live,⟨hF'.os.trans hF.os,hF'.tape.trans hF.tape,hF'.output.trans hF.output,Nat.le_trans hF.size hF'.size,hF.old,fun b h=>(hF'.block b ⟨hb b h,.inl h⟩).trans (hF.block b h),fun o p hp h=>hF'.own o p hp ⟨hb _ h,.inl h⟩⟩⟩,fun H' e=>?_⟩
 refine Rs.ent ⟨T,stars_keep h1 fun b hb=>hF'.block b ⟨stars_lt h1 hb,.inr hb⟩,fun b hb=>⟨(h2 b hb).1,fun o p hp e=>hF'.own o p hp (by rw[e];exact ⟨stars_lt h1 hb,.inr hb⟩)⟩⟩ e
structure Rl(F:Frz)(γ:Gam)(H:List AObj)(w:World):Prop where
 rel:RelL F γ (hp H) w
 pl:∀o,o<H.length→γ o≠none
 rs:Rs F γ H w
def Old(k:Nat)(γ γ':Gam):Prop:=∀o,o<k→∀p,γ o=some p→γ' o=some p∨γ' o=some none
theorem Old.refl(k:Nat)(γ:Gam):Old k γ γ:=fun _ _ _ h=>.inl h
theorem Old.trans{k:Nat}{a b c:Gam}(h:Old k a b)(h':Old k b c):Old k a c:=fun o ho p hp=>by
 rcases h o ho p hp with h1|h1
 ·exact h' o ho p h1
 ·rcases h' o ho none h1 with h2|h2<;>exact .inr h2
theorem Old.of_ext{γ γ':Gam}(h:Ext γ γ')(k:Nat):Old k γ γ':=fun o _ p hp=>h o p hp
structure Aft(F:Frz)(γ:Gam)(S:List Nat)(H:List AObj)(γ':Gam)(H':List AObj)(w':World):Prop where
 rel:RelL F γ' (hp H') w'
 step:Step γ (hp H) γ' (hp H')
 pl:∀q,q<H'.length→q∉S→γ' q≠none
 rs:Rs F γ' H' w'
theorem Aft.rl{F:Frz}{γ γ':Gam}{H H':List AObj}{w':World}(h:Aft F γ [] H γ' H' w'):Rl F γ' H' w':=⟨h.rel,fun q hq=>h.pl q hq (by simp),h.rs⟩
theorem Step.toH{γ γ':Gam}{σ τ:AS}{H:List AObj}(h:Step γ σ γ' τ)(e:HpEq τ H)(hl:H.length≤lim):Step γ σ γ' (hp H):=
 ⟨h.ext,h.new,by have:=h.le;have:=e.next;show σ.next≤H.length;omega,fun o ho hg=>by rw[hp_get hl,←e.get o];exact h.same o ho hg⟩
structure CallS(P:Program)(S:List Nat)(f:Nat)(args:List AV)(H:List AObj)(K:AV→List AObj→Prop):Prop where
 out:∀(F:Frz) (γ:Gam) (w:World) (xs:Array Value),RelL F γ (hp H) w→(∀o,o<H.length→o∉S→γ o≠none)→Rs F γ H w→Concs γ args xs.toList →
  (callFunc f xs).run P w=.ok (.enter f xs) w∧∀R:Ending→World→Prop,(∀v H' γ' x w',K v H'→Conc γ' v x→Aft F γ S H γ' H' w'→R (.returned x) w')→Calls P f xs w R
abbrev CallP(P:Program)(f:Nat)(args:List AV)(H:List AObj)(K:AV→List AObj→Prop):Prop:=CallS P [] f args H K
structure WpS(P:Program)(n k:Nat)(c:Code)(t:Tmps)(H:List AObj)(Q:AExit→Tmps→List AObj→Prop):Prop where
 out:∀(F:Frz) (γ:Gam) (w:World) (a:Act) (R:Exit→Act→World→Prop),Rl F γ H w→ConcT γ n t a →
  (∀e t' H' γ' a' w',Q e t' H'→Rl F γ' H' w'→ConcT γ' n t' a'→Old k γ γ'→R e.ex a' w')→c.wp P R a w
section
variable(E:Env)
def newOk(n:Nat)(v:AV)(next:Nat):Bool:=
 Nat.beq next n || (match v with
  | .slice o _ _ (.grown _)=>Nat.beq o n&&Nat.beq next (n+1)
  | .ptr o _=>Nat.beq o n&&Nat.beq next (n+1)
  | _=>false)
def outK(P:Program)(S:List Nat)(H:List AObj)(K:AV→List AObj→Prop):Out→Prop
 | .pure v=>K v H
 | .read v=>K v H
 | .new ob k=>H.length<lim∧K (k.val H.length) (H++[ob])
 | .act v σ=>∃H',HpEq σ H'∧newOk H.length v σ.next=true∧Ent (rss H) (rss H')∧K v H'
 | .call f args=>CallS P S f args H K
def sizeK(t:TypeId)(K:Nat→TypeDesc→Prop):Prop:=match E.ty t with
 | some ⟨⟨_,_,size,_,_,_,_,_,_,_⟩,und,_,_⟩=>K size und
 | none=>False
def partK(t:TypeId)(cs:List AV)(off:Nat)(K:AV→Prop):Prop:=sizeK E t fun size und=>match isAggD und with
 | true=>match Nat.ble (off+size) cs.length with
   | true=>fl ((cs.drop off).take size) (fun l=>K (.agg l))
   | false=>False
 | false=>match cs[off]? with
   | some v=>K v
   | none=>False
def fieldK(t:TypeId)(f:Nat)(K:TypeId→Nat→Prop):Prop:=match E.ty t with
 | some r=>match r.und with
   | .struct fs=>match fs.toList[f]? with
     | some ⟨_,type,offset,_,_,_,_⟩=>K type offset
     | none=>False
   | _=>False
 | none=>False
structure IdxP(n:Nat)(z:Int)(K:Nat→Prop):Prop where
 out:∃k:Nat,z=(k:Int)∧k<n∧K k
theorem IdxP.of{n k:Nat}{z:Int}{K:Nat→Prop}(h:z=(k:Int))(hk:k<n)(h1:K k):IdxP n z K:=⟨k,h,hk,h1⟩
def idxK(n:Nat)(i:AV)(K:Nat→Prop):Prop:=
 match i with
 | .lit (.int _ z)=>IdxP n z K
 | _=>False
structure RowP(xs:List Value)(off size:Nat)(agg:Bool)(K:AV→Prop):Prop where
 out:∃v,(match agg with
  | true=>if off+size≤xs.length then some (AV.agg (((xs.map AV.lit).drop off).take size)) else none
  | false=>(xs.map AV.lit)[off]?)=some v∧K v
structure OpM(P:Program)(S:List Nat)(t:Tmps)(H:List AObj)(op:Op)(K:AV→List AObj→Prop):Prop where
 out:∀(F:Frz) (γ:Gam) (w:World) (ρ:Operand→Value),RelL F γ (hp H) w→(∀o,o<H.length→o∉S→γ o≠none)→Rs F γ H w→(∀x v,x∈op.operands.toList→opnd t x=some v→Conc γ v (ρ x))→∀o:Oper,o.op=op →
  ∃v H' γ' nx w',(execOp ρ o).run P w=.ok nx w'∧((∃x,nx=.value x∧Conc γ' v x)∨(nx=.skip∧v=undefV))∧K v H'∧Aft F γ S H γ' H' w'
structure AppP(P:Program)(m:Bool)(S:List Nat)(t:Tmps)(c:Call)(ty:TypeId)(s x:AV)(H:List AObj)(K:AV→List AObj→Prop):Prop where
 out:(∃v σ H',appendA E (hp H) ty s x=some (v,σ)∧HpEq σ H'∧newOk H.length v σ.next=true∧Ent (rss H) (rss H')∧K v H')∨(m=true∧OpM P S t H (.call c) K)
structure OpP(P:Program)(m:Bool)(S:List Nat)(t:Tmps)(H:List AObj)(op:Op)(K:AV→List AObj→Prop):Prop where
 out:(∃out,evOp E t (hp H) op=some out∧outK P S H K out)∨(m=true∧OpM P S t H op K)
theorem OpP.ev{E:Env}{P:Program}{m:Bool}{S:List Nat}{t:Tmps}{H:List AObj}{op:Op}{K:AV→List AObj→Prop}(h:∃out,evOp E t (hp H) op=some out∧outK P S H K out):OpP E P m S t H op K:=⟨.inl h⟩
def opaqueOp(H:List AObj)(t:Tmps):Op→Bool
 | .binOp op _ _ _ _=>match op with
   | .shl|.shr|.quo|.rem=>true
   | _=>false
 | .slice _ _ _ _ _=>true
 | .convert _ _ x=>match opnd t x with
   | some (.lit (.int _ _))=>false
   | some (.lit (.string _))=>true
   | some (.slice _ _ _ _)=>true
   | some (.lit (.slice (some _) _ _))=>true
   | _=>false
 | .lookup _ x _ _=>match opnd t x with
   | some (.map o)=>match H[o]? with
     | some (.map _ _)=>false
     | _=>true
   | _=>false
 | .index _ x _=>match opnd t x with
   | some (.lit (.string _))=>true
   | _=>false
 | .mapUpdate _ _ _ _|.insert _ _ _ _|.range _ _|.next _ _|.entry _=>true
 | .makeSlice _ _ _=>true
 | .call c=>match c.callee with
   | .builtin .delete|.builtin .copy=>true
   | _=>false
 | _=>false
def isLitS:AV→Bool
 | .lit (.slice (some _) _ _)=>true
 | _=>false
def opK(P:Program)(m:Bool)(S:List Nat)(t:Tmps)(H:List AObj)(K:AV→List AObj→Prop)(op:Op):Prop:=match opaqueOp H t op with
 | true=>OpP E P m S t H op K
 | false=>match op with
   | .fieldAddr ty x f=>match opnd t x with
     | some (.ptr p off)=>fieldK E ty f fun ft fo=>sizeK E ft fun size _=>match Nat.beq size 0 with
       | false=>K (.ptr p (off+fo)) H
       | true=>False
     | some (.lit (.pointer _))=>OpP E P m S t H (.fieldAddr ty x f) K
     | _=>False
   | .field ty x f=>match opnd t x with
     | some (.agg cs)=>fieldK E ty f fun ft fo=>partK E ft cs fo (fun v=>K v H)
     | _=>False
   | .indexAddr ty x' i'=>match opnd t x',opnd t i' with
     | some x,some i=>match E.ty ty with
       | some r=>match r.und with
         | .array len elem=>match x with
           | .ptr p off=>sizeK E elem fun size _=>idxK len i (fun i=>K (.ptr p (off+i * size)) H)
           | _=>False
         | .slice elem=>match x with
           | .slice p off len _=>sizeK E elem fun size _=>idxK len i (fun i=>K (.ptr p (off+i * size)) H)
           | .lit (.slice _ _ _)=>OpP E P m S t H (.indexAddr ty x' i') K
           | _=>False
         | _=>False
       | none=>False
     | _,_=>False
   | .load ty a=>match opnd t a with
     | some (.ptr p off)=>match H[p]? with
       | some (.cells l _)=>partK E ty l off (fun v=>K v H)
       | some (.row xs _)=>sizeK E ty fun size und=>RowP xs off size (isAggD und) (fun v=>K v H)
       | _=>False
     | some (.lit (.pointer _))=>OpP E P m S t H (.load ty a) K
     | _=>False
   | .store ty a v'=>match opnd t a,opnd t v' with
     | some (.ptr p off),some v=>match H[p]? with
       | some (.cells l e)=>sizeK E ty fun size _=>match Nat.beq v.cells.length size&&v.cells.all AV.one&&Nat.ble (off+size) l.length with
         | true=>fl (setFrom l off v.cells) (fun l'=>setK H p (.cells l' e) (fun H'=>K undefV H'))
         | false=>False
       | some (.row _ _)=>OpP E P m S t H (.store ty a v') K
       | _=>False
     | some (.lit (.pointer _)),some _=>OpP E P m S t H (.store ty a v') K
     | _,_=>False
   | .assign x=>match opnd t x with
     | some v=>K v H
     | none=>False
   | .box e x=>match opnd t x with
     | some v=>match Nat.blt H.length lim with
       | true=>fl v.cells fun l=>snocK H (.cells l e) fun H'=>natF (cnt H 0) fun n=>K (.ptr n 0) H'
       | false=>False
     | none=>False
   | .call c=>match c.callee with
     | .builtin b=>match b with
       | .append=>match argsA t c.args.toList with
         | some [s,x]=>match c.argTypes.toList with
           | [ty,xt]=>match E.ty xt with
             | some xr=>match xr.und with
               | .int _=>False
               | _=>match isLitS s || isLitS x with
                 | true=>OpP E P m S t H (.call c) K
                 | false=>AppP E P m S t c ty s x H K
             | none=>False
           | _=>False
         | _=>False
       | b=>match argsA t c.args.toList with
         | some args=>match builtinA E (hp H) b c.argTypes.toList args with
           | some (.pure v)=>K v H
           | some (.read v)=>K v H
           | _=>False
         | none=>False
     | _=>match evOp E t (hp H) (.call c) with
       | some (.call f args)=>fl args (fun args=>CallS P S f args H K)
       | _=>False
   | op=>match evOp E t (hp H) op with
     | some (.pure v)=>K v H
     | some (.read v)=>K v H
     | some (.new ob k)=>match Nat.blt H.length lim with
       | true=>fOb ob (fun ob=>snocK H ob (fun H'=>natF (cnt H 0) fun n=>K (k.val n) H'))
       | false=>False
     | _=>False
def stepK(P:Program)(S:List Nat)(all:List Oper)(o:Oper)(t:Tmps)(H:List AObj)(K:AV→List AObj→Prop):Prop:=
 match wantedA all t o with
 | none=>False
 | some false=>K undefV H
 | some true=>opK E P true S t H K o.op
def wpOps(P:Program)(n:Nat)(all:List Oper):List Oper→Tmps→List AObj→(Tmps→List AObj→Prop)→Prop
 | [],t,H,K=>K t H
 | o::rest,t,H,K=>stepK E P [] all o t H (fun v H'=>fv v (fun v=>putK n o.dst t v (fun t'=>wpOps P n all rest t' H' K)))
def WpC(P:Program)(n k:Nat):Code→Tmps→List AObj→(AExit→Tmps→List AObj→Prop)→Prop
 | .skip,t,H,Q=>Q .normal t H
 | .label _,t,H,Q=>Q .normal t H
 | .ret,t,H,Q=>Q .ret t H
 | .exit id,t,H,Q=>Q (.exit id) t H
 | .goto l,t,H,Q=>Q (.goto l) t H
 | .region id ops draw,t,H,Q=>match draw with
   | false=>wpOps E P n ops.toList ops.toList t H (fun t H=>Q .normal t H)
   | true=>WpS P n k (.region id ops true) t H Q
 | .seq a b,t,H,Q=>WpC P n k a t H (fun e t H=>match e with
   | .normal=>WpC P n k b t H Q
   | .exit id=>Q (.exit id) t H
   | .goto l=>Q (.goto l) t H
   | .ret=>Q .ret t H)
 | .cond c a b,t,H,Q=>match opnd t c with
   | some (.lit (.bool v))=>match v with
     | true=>WpC P n k a t H Q
     | false=>WpC P n k b t H Q
   | _=>False
 | .block id b,t,H,Q=>WpC P n k b t H (fun e t H=>match e with
   | .exit id'=>match Nat.beq id' id with
     | true=>Q .normal t H
     | false=>Q (.exit id') t H
   | .normal=>Q .normal t H
   | .goto l=>Q (.goto l) t H
   | .ret=>Q .ret t H)
 | .loop b,t,H,Q=>WpS P n k (.loop b) t H Q
 | .scope b,t,H,Q=>WpC P n k b t H (fun e t H=>match e with
   | .goto _=>False
   | .exit id=>Q (.exit id) t H
   | .normal=>Q .normal t H
   | .ret=>Q .ret t H)
 | _,_,_,_=>False
def resK(t:Tmps)(H:List AObj):List ResultVar→(List AV→Prop)→Prop
 | [],L=>L []
 | .tmp i::rs,L=>match t.get i with
   | some v=>resK t H rs fun l=>L (v::l)
   | none=>False
 | .cell a ty::rs,L=>match t.get a with
   | some (.ptr o off)=>match H[o]? with
     | some (.cells l _)=>partK E ty l off fun v=>resK t H rs fun l=>L (v::l)
     | _=>False
   | _=>False
def endK(fn:Func)(K:AV→List AObj→Prop):AExit→Tmps→List AObj→Prop:=fun e t H=>match e with
 | .normal|.ret=>resK E t H fn.results.toList fun l=>match l with
   | [v]=>fv v fun v=>K v H
   | []=>K undefV H
   | l=>K (.tuple l) H
 | _=>False
def FnW(P:Program)(fn:Func)(args:List AV)(H:List AObj)(K:AV→List AObj→Prop):Prop:=
 match fn.body with
 | none=>False
 | some c=>match Nat.ble args.length fn.ntmps&&Nat.ble fn.ntmps 65536 with
   | true=>WpC E P fn.ntmps H.length c (setArgs 0 args .e) H (endK E fn K)
   | false=>False
end
end Go.Proofs.YtmbdghclhpboaaaGreat.Ev
