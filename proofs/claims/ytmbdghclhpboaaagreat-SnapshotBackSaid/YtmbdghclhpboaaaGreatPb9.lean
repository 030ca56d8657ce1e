/- Part of the proof: EvR. Conditions: as each states. -/
import Derived.Test.YtmbdghclhpboaaaGreatPb8
set_option linter.all false
namespace Go.Proofs.YtmbdghclhpboaaaGreat.Ev
section
variable{F:Frz}{P:Program}{E:Env}(hE:EnvOk P E){γ:Gam}{σ:AS}{w:World}{t:Tmps}{ρ:Operand→Value}
include hE
omit hE in
theorem next_ok(hR:RelL F γ σ w){it v:AV}{σ':AS}(h:iterA σ it=some (v,σ')){y:Value}(hx:Conc γ it y){ty:TypeId} :
  ∃w' u,(Instr.next y false ty).run P w=.ok u w'∧Conc γ v u∧RelL F γ σ' w'∧Step γ σ γ σ':=by
 unfold iterA at h
 split at h
 ·rename_i r0
  split at h
  ·rename_i m since seen last hg
   split at h
   ·rename_i es clock hm
    split at h
    ·cases h
    ·rename_i hcond
     simp only[Conc] at hx
     obtain ⟨a,rfl,ha⟩:=hx
     obtain ⟨p,hp,hb0,rr,hb,hmr⟩:=hR.find hg (by simp) ha.ne
     obtain rfl:=ha.at hp
     obtain ⟨q,hq,es',hbm,he⟩:=hR.find hm (by simp) hmr.ne
     obtain rfl:=hmr.at hq
     have hg1:(getObj p.block).run P w=.ok (.mapIter (some q.block) since seen.toArray last) w:=by simp[getObj,Sem.run,hb]
     have hg2:(getObj q.block).run P w=.ok (.map es' clock) w:=by simp[getObj,Sem.run,hbm]
     have hlen:=entRel_length he
     have hc1:es'.isEmpty=es.isEmpty:=by
      cases es with
      | nil=>simp at hlen;simp[hlen]
      | cons e es=>cases hes:es'.isEmpty with
        | true=>simp at hes;subst hes;simp at hlen
        | false=>rfl
     have hc2:es'.all (·.born≥last)=es.all (fun e=>Nat.ble last e.2.2):=by
      have:=entRel_all (fun b=>decide (b≥last)) he
      rw[←Array.all_toList,this]
      congr 1
      funext e
      rw[Bool.eq_iff_iff,decide_eq_true_iff]
      exact ⟨fun h=>Nat.ble_eq_true_of_le h,fun h=>Nat.le_of_ble_eq_true h⟩
     have hcond':(!seen.toArray.isEmpty&&!es'.isEmpty&&es'.all (·.born≥last))=false:=by
      rw[hc1,hc2]
      simpa using hcond
     have hleft:=entRel_filter (fun b=>!seen.contains b) he
     have hold:=entRel_filter (fun b=>Nat.blt b since) hleft
     have hnew:=entRel_filter (fun b=>Nat.ble since b) hleft
     have e1:(es'.filter fun e=>!seen.toArray.contains e.born).toList=es'.toList.filter fun e=>!seen.contains e.born:=by simp
     have e2:((es'.filter fun e=>!seen.toArray.contains e.born).filter (·.born<since)).toList=(es'.toList.filter fun e=>!seen.contains e.born).filter fun e=>Nat.blt e.born since:=by
      rw[Array.toList_filter,e1]
      congr 1
      funext e
      rw[Bool.eq_iff_iff,decide_eq_true_iff]
      exact ⟨fun h=>Nat.ble_eq_true_of_le h,fun h=>Nat.le_of_ble_eq_true h⟩
     have e3:((es'.filter fun e=>!seen.toArray.contains e.born).filter (·.born≥since)).toList=(es'.toList.filter fun e=>!seen.contains e.born).filter fun e=>Nat.ble since e.born:=by
      rw[Array.toList_filter,e1]
      congr 1
      funext e
      rw[Bool.eq_iff_iff,decide_eq_true_iff]
      exact ⟨fun h=>Nat.ble_eq_true_of_le h,fun h=>Nat.le_of_ble_eq_true h⟩
     simp only[] at h
     split at h
     ·
      rename_i hh1 hh2
      simp only[Option.some.injEq,Prod.mk.injEq] at h
      obtain ⟨rfl,rfl⟩:=h
      rw[hh1] at hold
      rw[hh2] at hnew
      simp only[EntRel] at hold hnew
      rw[hold] at e2
      rw[hnew] at e3
      have e2':(es'.filter fun e=>!seen.toArray.contains e.born).filter (·.born<since)=#[]:=by simpa using e2
      have e3':(es'.filter fun e=>!seen.toArray.contains e.born).filter (·.born≥since)=#[]:=by simpa using e3
      refine ⟨w,.tuple #[.bool false],?_,?_,hR,.refl γ σ⟩
      ·unfold Instr.next
       rw[hb0]
       simp only[Sem.run_bind,hg1,Result.andThen_ok,hg2,hcond',Bool.false_eq_true,if_false,e2',e3']
       have:((if (#[]:Array MapEntry).isEmpty=true then #[none] else #[])++Array.map some ((#[]:Array MapEntry)++#[]):Array (Option MapEntry))=#[none]:=by simp
       rw[this]
       simp only[run_choose]
       have hq:(Question.mapNext (#[(none:Option MapEntry)]:Array (Option MapEntry)).size).forced=true:=rfl
       simp only[hq,if_true,Result.andThen_ok]
       rfl
      ·simp only[Conc]
       exact ⟨_,rfl,by simp only[Concs];exact ⟨.bool false,[],rfl,conc_lit γ _,rfl⟩⟩
     ·
      rename_i k u born hh1 hh2
      simp only[Option.some.injEq,Prod.mk.injEq] at h
      obtain ⟨rfl,rfl⟩:=h
      rw[hh1] at hold
      rw[hh2] at hnew
      simp only[EntRel] at hold hnew
      obtain ⟨k',u',rest,hr1,hk,hu,rfl⟩:=hold
      rw[hr1] at e2
      rw[hnew] at e3
      have e2':(es'.filter fun e=>!seen.toArray.contains e.born).filter (·.born<since)=#[⟨k',u',born⟩]:=Array.toList_inj.1 e2
      have e3':(es'.filter fun e=>!seen.toArray.contains e.born).filter (·.born≥since)=#[]:=by simpa using e3
      have hset:(Go.setObj p.block (.mapIter (some q.block) since (seen.toArray.push born) clock)).run P w=.ok () { w with heap:=w.heap.setIfInBounds p.block (.mapIter (some q.block) since (seen.toArray.push born) clock) }:=by
       simp[Go.setObj,Sem.run,hb]
      have hlt:=(Array.getElem?_eq_some_iff.1 hb).1
      refine ⟨_,.tuple #[.bool true,k',u'],?_,?_,RelL.set (w':={ w with heap:=w.heap.setIfInBounds p.block (.mapIter (some q.block) since (seen.toArray.push born) clock) }) hR hp (by simp) ?_ ?_,Step.set hR _ hp⟩
      ·unfold Instr.next
       rw[hb0]
       simp only[Sem.run_bind,hg1,Result.andThen_ok,hg2,hcond',Bool.false_eq_true,if_false,e2',e3']
       have:((if (#[⟨k',u',born⟩]:Array MapEntry).isEmpty=true then #[none] else #[])++Array.map some (#[⟨k',u',born⟩]++#[]):Array (Option MapEntry))=#[some ⟨k',u',born⟩]:=by simp
       rw[this]
       simp only[run_choose]
       have hq:(Question.mapNext (#[some (⟨k',u',born⟩:MapEntry)]:Array (Option MapEntry)).size).forced=true:=rfl
       simp only[hq,if_true,Result.andThen_ok]
       have:(#[some (⟨k',u',born⟩:MapEntry)]:Array (Option MapEntry))[0]?=some (some ⟨k',u',born⟩):=rfl
       rw[this]
       simp only[Sem.run_bind,hset,Result.andThen_ok,Sem.run_pure]
      ·simp only[Conc]
       exact ⟨_,rfl,by simp only[Concs];exact ⟨.bool true,[k',u'],rfl,conc_lit γ _,k',[u'],rfl,hk,u',[],rfl,hu,rfl⟩⟩
      ·refine ⟨hb0,q.block,?_,by unfold mapP;rw[hq]⟩
       simp[hlt]
      ·exact turn_set w p.block _
     ·cases h
   ·cases h
  ·cases h
 ·cases h
theorem act_ok(hR:RelL F γ σ w)(hρ:OpRel γ t ρ)(o:Oper){v:AV}{σ':AS}(h:evOp E t σ o.op=some (.act v σ')) :
  ∃γ' w' n,(execOp ρ o).run P w=.ok n w'∧((∃x,n=.value x∧Conc γ' v x)∨(n=.skip∧v=undefV))∧RelL F γ' σ' w'∧Step γ σ γ' σ':=by
 obtain ⟨dst,op,type,pos,after,guard⟩:=o
 simp only[] at h
 cases op<;>simp only[evOp] at h
 case assign x=>
  obtain ⟨u,hu,e⟩:=Option.map_eq_some_iff.1 h
  cases e
  exact ⟨γ,w,.value (ρ x),rfl,.inl ⟨_,rfl,hρ _ _ hu⟩,hR,.refl γ σ⟩
 case store ty a x=>
  split at h
  ·rename_i av xv ha hx
   obtain ⟨u,hu,e⟩:=Option.map_eq_some_iff.1 h
   cases e
   obtain ⟨w',h1,h2,h3⟩:=store_ok hE hR hu (hρ _ _ ha) (hρ _ _ hx)
   refine ⟨γ,w',.skip,?_,.inr ⟨rfl,rfl⟩,h2,h3⟩
   simp only[execOp,Sem.run_bind,h1,Result.andThen_ok,Sem.run_pure]
  ·cases h
 case mapUpdate ty m k x=>
  split at h
  ·rename_i mv kv xv hm hk hx
   obtain ⟨u,hu,e⟩:=Option.map_eq_some_iff.1 h
   cases e
   obtain ⟨w',h1,h2,h3⟩:=update_ok hE hR hu (hρ _ _ hm) (hρ _ _ hk) (hρ _ _ hx)
   refine ⟨γ,w',.skip,?_,.inr ⟨rfl,rfl⟩,h2,h3⟩
   simp only[execOp,Sem.run_bind,h1,Result.andThen_ok,Sem.run_pure]
  ·cases h
 case insert ty m k x=>
  split at h
  ·rename_i mv kv xv hm hk hx
   obtain ⟨u,hu,e⟩:=Option.map_eq_some_iff.1 h
   cases e
   obtain ⟨w',h1,h2,h3⟩:=update_ok hE hR hu (hρ _ _ hm) (hρ _ _ hk) (hρ _ _ hx)
   refine ⟨γ,w',.skip,?_,.inr ⟨rfl,rfl⟩,h2,h3⟩
   simp only[execOp,Sem.run_bind,h1,Result.andThen_ok,Sem.run_pure]
  ·cases h
 case range ty x=>
  split at h
  ·rename_i r o hr hx
   split at h
   ·rename_i kt et es clock hd hg
    split at h
    ·rename_i hlt
     have hlt:=blt_t hlt
     simp only[Option.some.injEq,Out.act.injEq] at h
     obtain ⟨rfl,rfl⟩:=h
     have hc:=hρ _ _ hx
     simp only[Conc] at hc
     obtain ⟨b,hb,hmb⟩:=hc
     obtain ⟨p,hp,es',hbm,he⟩:=hR.find hg (by simp) hmb.ne
     obtain rfl:=hmb.at hp
     have hg0:γ σ.next=none:=hR.dom _ (Nat.le_refl _)
     have hm:=hR.more hlt (.iter o clock [] clock)
     have hget:(σ.heap.put σ.next (AObj.iter o clock [] clock)).get σ.next=some (.iter o clock [] clock):=by rw[T.get_put _ _ _ _ (Nat.le_of_lt hlt)];simp
     have hx:=ext_upd (some ⟨w.heap.size,0,0⟩) hg0
     refine ⟨upd γ σ.next (some ⟨w.heap.size,0,0⟩),{ w with heap:=w.heap.push (.mapIter (some p.block) clock #[] clock) },.value (.pointer (some ⟨w.heap.size,0,none⟩)),?_,.inl ⟨_,rfl,?_⟩,hm.place (id:=σ.next) (base:=0) (top:=0) (by simp) hg0 hget (by simp) _ ?_,Step.place _ hg0 σ (Nat.le_refl _) (Step.more hR hlt _)⟩
     ·have hg1:(getObj p.block).run P w=.ok (.map es' clock) w:=by simp[getObj,Sem.run,hbm]
      simp only[execOp]
      refine run_v ?_
      rw[hb]
      unfold Instr.range
      simp only[Sem.run_bind,run_und hE hr w,hd,Result.andThen_ok,hg1,Sem.run_pure,run_newObj]
     ·simp only[Conc]
      exact ⟨_,rfl,by unfold atP;rw[upd_self]⟩
     ·refine ⟨rfl,p.block,by simp,hmb.mono hx⟩
    ·cases h
   ·cases h
  ·cases h
 case next it isString=>
  split at h
  ·rename_i iv hi
   obtain ⟨⟨u,σ2⟩,hu,e⟩:=Option.map_eq_some_iff.1 h
   cases e
   obtain ⟨w',z,h1,h2,h3,h4⟩:=next_ok (P:=P) (ty:=type) hR hu (hρ _ _ hi)
   exact ⟨γ,w',.value z,by simp only[execOp];exact run_v h1,.inl ⟨_,rfl,h2⟩,h3,h4⟩
  ·cases h
 case call c=>
  split at h
  ·cases h
  ·rename_i args hargs
   have hc:=concs_allSome hρ hargs
   split at h
   ·split at h
    ·unfold fnCall at h
     split at h<;>cases h
    ·cases h
   ·rename_i b hcal
    simp only[execOp,resolve,hcal,invoke,builtin]
    have get:∀(i:Nat) (v:AV),args[i]?=some v→∃x,(c.args.map ρ)[i]?=some x∧Conc γ v x:=by
     intro i v hv
     obtain ⟨x,hx,hcx⟩:=concs_get hc i v hv
     exact ⟨x,by rw[←Array.getElem?_toList,Array.toList_map];exact hx,hcx⟩
    unfold builtinA at h
    split at h
    ·obtain ⟨u,hu,e⟩:=Option.map_eq_some_iff.1 h
     cases e
    ·rename_i ty rest s x hts
     split at h
     ·rename_i xt hts2
      split at h
      ·rename_i xr hxr
       split at h
       ·cases h
       ·rename_i hxd
        obtain ⟨⟨u,σ2⟩,hu,e⟩:=Option.map_eq_some_iff.1 h
        cases e
        obtain ⟨s',hs1,hs2⟩:=get 0 s rfl
        obtain ⟨x',hx1,hx2⟩:=get 1 x rfl
        obtain ⟨γ',w',z,h1,h2,h3,h4⟩:=append_ok hE hR (tt:=type) (ts:=c.argTypes) (ys:=c.args.map ρ) hu hs2 hx2 (by rw[←Array.getElem?_toList,hts];rfl) (by rw[←Array.getElem?_toList,hts2];rfl) hs1 hx1 hxr (fun k=>hxd k)
        refine ⟨γ',w',.value z,?_,.inl ⟨_,rfl,h2⟩,h3,h4⟩
        simp only[Sem.run_bind,Sem.run_pure,Result.andThen_ok,builtin,h1]
      ·cases h
     ·cases h
    ·rename_i ty rest d x hts
     obtain ⟨⟨u,σ2⟩,hu,e⟩:=Option.map_eq_some_iff.1 h
     cases e
     obtain ⟨d',hd1,hd2⟩:=get 0 d rfl
     obtain ⟨x',hx1,hx2⟩:=get 1 x rfl
     obtain ⟨w',z,h1,h2,h3,h4⟩:=copy_ok hE hR (tt:=type) (ts:=c.argTypes) (ys:=c.args.map ρ) hu hd2 hx2 (by rw[←Array.getElem?_toList,hts];rfl) hd1 hx1
     refine ⟨γ,w',.value z,?_,.inl ⟨_,rfl,h2⟩,h3,h4⟩
     simp only[Sem.run_bind,Sem.run_pure,Result.andThen_ok,builtin,h1]
    ·rename_i ty rest m k hts
     obtain ⟨σ2,hu,e⟩:=Option.map_eq_some_iff.1 h
     cases e
     obtain ⟨m',hm1,hm2⟩:=get 0 m rfl
     obtain ⟨k',hk1,hk2⟩:=get 1 k rfl
     obtain ⟨w',h1,h3,h4⟩:=delete_ok hE hR (tt:=type) (ts:=c.argTypes) (ys:=c.args.map ρ) hu hm2 hk2 (by rw[←Array.getElem?_toList,hts];rfl) hm1 hk1
     refine ⟨γ,w',.value (.tuple #[]),?_,.inl ⟨_,rfl,conc_lit γ _⟩,h3,h4⟩
     simp only[Sem.run_bind,Sem.run_pure,Result.andThen_ok,builtin,h1]
    ·obtain ⟨u,hu,e⟩:=Option.map_eq_some_iff.1 h
     cases e
    ·obtain ⟨u,hu,e⟩:=Option.map_eq_some_iff.1 h
     cases e
    ·cases h
   ·(repeat' split at h)<;>cases h
 case convert src dst x=>
  split at h
  ·unfold convA at h
   (repeat' split at h)<;>first|cases h|(obtain ⟨_,_,e⟩:=Option.map_eq_some_iff.1 h;cases e)
  ·cases h
 all_goals
  (repeat' split at h)<;>first|cases h|(obtain ⟨_,_,e⟩:=Option.map_eq_some_iff.1 h;cases e)
end
end Go.Proofs.YtmbdghclhpboaaaGreat.Ev
namespace Go.Proofs.YtmbdghclhpboaaaGreat.Ev
def T.mask{α:Type}:(Nat→Bool)→T α→T α
 | _,.e=>.e
 | p,.n v l r=>.n (if p 0 then none else v) (T.mask (fun i=>p (2 * i+1)) l) (T.mask (fun i=>p (2 * i+2)) r)
theorem T.get_mask{α:Type}:∀(p:Nat→Bool) (t:T α) (i:Nat),(T.mask p t).get i=if p i then none else t.get i
 | p,.e,i=>by simp[T.mask,T.get]
 | p,.n v l r,i=>by
   cases i with
   | zero=>simp[T.mask,T.get]
   | succ i=>
     simp only[T.mask,T.get]
     cases hb:Nat.beq (i % 2) 0 with
     | true=>
       have:=beq_t hb
       simp only[]
       rw[T.get_mask]
       rw[show 2 * (i / 2)+1=i+1 by omega]
     | false=>
       have:=beq_f hb
       simp only[]
       rw[T.get_mask]
       rw[show 2 * (i / 2)+2=i+1 by omega]
theorem argsA_congr{t t':Tmps}:∀{l:List Operand},(∀x∈l,opnd t x=opnd t' x)→argsA t l=argsA t' l
 | [],_=>rfl
 | x::l,h=>by
   unfold argsA
   simp only[List.map_cons,h x (by simp)]
   have:l.map (opnd t)=l.map (opnd t'):=List.map_congr_left fun y hy=>h y (by simp[hy])
   rw[this]
theorem optOp_congr{t t':Tmps}{x:Option Operand}(h:∀y∈x.toArray,opnd t y=opnd t' y):optOp t x=optOp t' x:=by
 cases x with
 | none=>rfl
 | some y=>simp only[optOp,h y (by simp)]
theorem evOp_congr{E:Env}{t t':Tmps}{σ:AS}(op:Op)(h:∀x∈op.operands,opnd t x=opnd t' x):evOp E t σ op=evOp E t' σ op:=by
 cases op<;>simp only[Op.operands] at h<;>simp only[evOp]
 case build ty parts=>
  rw[argsA_congr (t':=t') fun x hx=>h x (by simpa using hx)]
 case buildSlice ty n parts=>
  rw[argsA_congr (t':=t') fun x hx=>h x (by simpa using hx)]
 case makeFunc fn first captured=>
  rw[argsA_congr (l:=first.toList) (t':=t') fun x hx=>h x (by simp at hx;simp[hx]),argsA_congr (l:=captured.toList) (t':=t') fun x hx=>h x (by simp at hx;simp[hx])]
 case slice ty x lo hi mx=>
  rw[h x (by simp),optOp_congr (x:=lo) (t':=t') fun y hy=>h y (by simp only[Array.mem_append];exact .inl (.inl (.inr hy))),optOp_congr (x:=hi) (t':=t') fun y hy=>h y (by simp only[Array.mem_append];exact .inl (.inr hy)),
   optOp_congr (x:=mx) (t':=t') fun y hy=>h y (by simp only[Array.mem_append];exact .inr hy)]
 case call c=>
  have ha:argsA t c.args.toList=argsA t' c.args.toList:=argsA_congr fun x hx=>h x (by simp[Call.operands] ; right;simpa using hx)
  rw[ha]
  cases hc:c.callee with
  | value f=>simp only[h f (by simp[Call.operands,hc])]
  | invoke r m=>simp only[h r (by simp[Call.operands,hc])]
  | builtin b=>rfl
 all_goals
  first
   | rfl
   | (rename_i x;simp only[h x (by simp)];done)
   | (simp at h;simp only[h];done)
theorem wanted_ok{γ:Gam}{n:Nat}{t:Tmps}{a:Act}{ops:Array Oper}{o:Oper}{b:Bool}(h:wantedA ops.toList t o=some b)(hT:∀d v,(o.guard.bind fun g=>(ops[g.1]?).bind (·.dst))=some d→t.get d=some v→∃x,a.tmps[d]?=some x∧Conc γ v x) :
  Region.wanted o (yielded ops a.tmps)=b:=by
 unfold wantedA at h
 unfold Region.wanted
 cases hg:o.guard with
 | none=>rw[hg] at h;simp only[Option.some.injEq] at h;exact h
 | some g=>
   obtain ⟨j,want⟩:=g
   rw[hg] at h
   simp only[] at h ⊢
   split at h
   ·rename_i p hp
    split at h
    ·rename_i d hd
     have hp':ops[j]?=some p:=by simpa using hp
     have hb:(o.guard.bind fun g=>(ops[g.1]?).bind (·.dst))=some d:=by rw[hg];simp[hp',hd]
     split at h
     ·rename_i c hc
      simp only[Option.some.injEq] at h
      obtain ⟨x,hx,hcx⟩:=hT d _ hb hc
      rw[conc_lit_iff] at hcx
      subst hcx
      unfold yielded
      simp only[hp',Option.bind_some,hd,hx]
      rw[←h]
      cases c<;>cases want<;>rfl
     ·rename_i c hc
      simp only[Option.some.injEq] at h
      obtain ⟨x,hx,hcx⟩:=hT d _ hb hc
      rw[conc_lit_iff] at hcx
      subst hcx
      unfold yielded
      simp only[hp',Option.bind_some,hd,hx]
      rw[←h]
      rfl
     ·cases h
    ·cases h
   ·cases h
theorem wantedA_congr{ops:Array Oper}{t t':Tmps}{o:Oper}(h:∀d,(o.guard.bind fun g=>(ops[g.1]?).bind (·.dst))=some d→t.get d=t'.get d):wantedA ops.toList t o=wantedA ops.toList t' o:=by
 unfold wantedA
 cases hg:o.guard with
 | none=>rfl
 | some g=>
   obtain ⟨j,want⟩:=g
   simp only[]
   cases hp:ops.toList[j]? with
   | none=>rfl
   | some p=>
     simp only[]
     cases hd:p.dst with
     | none=>rfl
     | some d=>
       have hp':ops[j]?=some p:=by simpa using hp
       simp only[]
       rw[h d (by rw[hg];simp[hp',hd])]
theorem put_ok{γ:Gam}{n:Nat}{t t':Tmps}{a:Act}{d:Option Nat}{v:AV}{x:Value}(hT:ConcT γ n t a)(h:putA n t d v=some t')(hn:n≤lim)(hx:Conc γ v x):ConcT γ n t' (a.put d x):=by
 unfold putA at h
 cases d with
 | none=>simp only[Option.some.injEq] at h;subst h;exact hT
 | some d=>
   simp only[] at h
   split at h
   ·rename_i hlt
    have hlt:=blt_t hlt
    simp only[Option.some.injEq] at h
    subst h
    refine ⟨by simpa [Act.put] using hT.size,hT.defers,fun i u hu=>?_⟩
    rw[T.get_put _ _ _ _ (by omega)] at hu
    have hsz:=hT.size
    by_cases e:i=d
    ·subst e
     rw[if_pos rfl] at hu
     simp only[Option.some.injEq] at hu
     subst hu
     exact ⟨x,by simp only[Act.put];rw[Array.getElem?_setIfInBounds_self_of_lt (by omega)],hx⟩
    ·rw[if_neg e] at hu
     obtain ⟨y,hy,hc⟩:=hT.get i u hu
     exact ⟨y,by simp only[Act.put];rw[Array.getElem?_setIfInBounds_ne (Ne.symm e)];exact hy,hc⟩
   ·cases h
theorem ConcT.mono{γ γ':Gam}{n:Nat}{t:Tmps}{a:Act}(hx:Ext γ γ')(h:ConcT γ n t a):ConcT γ' n t a:=
 ⟨h.size,h.defers,fun i v hv=>let ⟨x,h1,h2⟩:=h.get i v hv;⟨x,h1,h2.mono hx _ _⟩⟩
def CbOk(P:Program)(cb:Cb):Prop:=
 ∀f args σ v σ',cb f args σ=some (v,σ')→∀F γ w (xs:Array Value),RelL F γ σ w→Concs γ args xs.toList →
  (callFunc f xs).run P w=.ok (.enter f xs) w∧∀R:Ending→World→Prop,(∀γ' x w',Conc γ' v x→RelL F γ' σ' w'→Step γ σ γ' σ'→R (.returned x) w')→Calls P f xs w R
section
variable{F:Frz}{P:Program}{E:Env}(hE:EnvOk P E){γ:Gam}{σ:AS}{w:World}{t:Tmps}{ρ:Operand→Value}
include hE
theorem method_ok{ty:TypeId}{v:AV}{y:Value}{r:TyRow}{name:String}{m:Method}{f:FuncId}(hr:E.ty ty=some r)(hm:r.info.methods.find? (·.name==name)=some m)(hp:m.path.isEmpty=true)(hf:m.func=some (f,true))
  {e:TypeId} (hd:r.und=.pointer e) (k:Nat):(method (k+1) ty y name).run P w=.ok (f,y) w:=by
 have hpl:m.path.toList=[]:=by simpa using hp
 unfold method
 simp only[Sem.run_bind,run_info hE hr w,Result.andThen_ok,hm,hpl,follow,Sem.run_pure,hf,receiverAt,run_und hE hr w,hd,Place.get]
theorem call_ok(hρ:OpRel γ t ρ)(o:Oper){f:Nat}{args:List AV}(h:evOp E t σ o.op=some (.call f args)) :
  ∃xs:Array Value,Concs γ args xs.toList∧(execOp ρ o).run P w=(callFunc f xs).run P w:=by
 obtain ⟨dst,op,type,pos,after,guard⟩:=o
 simp only[] at h
 cases op<;>simp only[evOp] at h
 case call c=>
  split at h
  ·cases h
  ·rename_i as hargs
   have hc:=concs_allSome hρ hargs
   split at h
   ·rename_i fo hcal
    split at h
    ·rename_i fv hfv
     have hcf:=hρ _ _ hfv
     unfold fnCall at h
     split at h
     ·rename_i g first cap
      simp only[Option.some.injEq,Out.call.injEq] at h
      obtain ⟨rfl,rfl⟩:=h
      rw[conc_lit_iff] at hcf
      refine ⟨first++c.args.map ρ++cap,?_,?_⟩
      ·simp only[Array.toList_append,Array.toList_map]
       exact concs_append (concs_append (concs_lits γ _) hc) (concs_lits γ _)
      ·simp only[execOp,resolve,hcal,hcf,Deferred.ofValue,Sem.run_bind,Sem.run_pure,Result.andThen_ok,invoke]
     ·rename_i g first cap
      simp only[Option.some.injEq,Out.call.injEq] at h
      obtain ⟨rfl,rfl⟩:=h
      simp only[Conc] at hcf
      obtain ⟨a',b',hcf,h1,h2⟩:=hcf
      refine ⟨a'++c.args.map ρ++b',?_,?_⟩
      ·simp only[Array.toList_append,Array.toList_map]
       exact concs_append (concs_append h1 hc) h2
      ·simp only[execOp,resolve,hcal,hcf,Deferred.ofValue,Sem.run_bind,Sem.run_pure,Result.andThen_ok,invoke]
     ·cases h
    ·cases h
   ·unfold builtinA at h
    (repeat' split at h)<;>first|cases h|(obtain ⟨_,_,e⟩:=Option.map_eq_some_iff.1 h;cases e)
   ·rename_i x name hcal
    split at h
    ·rename_i ty v hx
     split at h
     ·rename_i r hr
      split at h
      ·rename_i m e hm hd
       split at h
       ·rename_i g hpath hfun
        simp only[Option.some.injEq,Out.call.injEq] at h
        obtain ⟨rfl,rfl⟩:=h
        have hcx:=hρ _ _ hx
        simp only[Conc] at hcx
        obtain ⟨y,hy,hcy⟩:=hcx
        refine ⟨#[y]++c.args.map ρ,?_,?_⟩
        ·simp only[Array.toList_append,Array.toList_map]
         simp only[List.singleton_append,Concs]
         exact ⟨y,_,rfl,hcy,hc⟩
        ·simp only[execOp,resolve,hcal,hy,Sem.run_bind,Sem.run_pure,Result.andThen_ok,invoke]
         have h0:(#[Value.iface ty y]++c.args.map ρ)[0]?=some (.iface ty y):=by rw[Array.getElem?_append_left (by simp)];rfl
         have hex:(#[Value.iface ty y]++c.args.map ρ).extract 1 (#[Value.iface ty y]++c.args.map ρ).size=c.args.map ρ:=by
          apply Array.ext'
          simp[List.take_of_length_le]
         rw[h0]
         simp only[hex,callMethod,Sem.run_bind,run_program,Result.andThen_ok]
         have hk:P.types.size+Made.depth=(P.types.size+Made.depth - 1)+1:=by
          have:0<Made.depth:=by unfold Made.depth;omega
          omega
         rw[hk,method_ok hE (v:=v) hr hm hpath hfun hd]
         rfl
       ·cases h
      ·cases h
     ·cases h
    ·cases h
 case convert src dst x=>
  split at h
  ·unfold convA at h
   (repeat' split at h)<;>first|cases h|(obtain ⟨_,_,e⟩:=Option.map_eq_some_iff.1 h;cases e)
  ·cases h
 all_goals
  (repeat' split at h)<;>first|cases h|(obtain ⟨_,_,e⟩:=Option.map_eq_some_iff.1 h;cases e)
end
end Go.Proofs.YtmbdghclhpboaaaGreat.Ev
namespace Go.Proofs.YtmbdghclhpboaaaGreat.Ev
section
variable{F:Frz}{P:Program}{E:Env}(hE:EnvOk P E){γ:Gam}{σ:AS}{w:World}{t:Tmps}
include hE
theorem stepV_ok{cb:Cb}(hcb:CbOk P cb){ops:Array Oper}{o:Oper}{i n:Nat}{v:AV}{σ':AS}{tag:Nat}{a:Act}(h:stepV E cb ops.toList o t σ=some (v,σ',tag))(hi:ops[i]?=some o)
  (hR:RelL F γ σ w) (hT:ConcT γ n t a) {K:Act→World→Prop} {Q:Exit→Act→World→Prop} (hK:∀γ' x w',Conc γ' v x→RelL F γ' σ' w'→Step γ σ γ' σ'→K (a.put o.dst x) w'):wpOp P ops Q i K a w:=by
 unfold stepV at h
 unfold wpOp
 simp only[hi]
 cases hw:wantedA ops.toList t o with
 | none=>rw[hw] at h;cases h
 | some b=>
   rw[hw] at h
   have hwant:=wanted_ok (a:=a) (γ:=γ) (n:=n) hw fun d u _ hu=>hT.get d u hu
   have hρ:=hT.opnd
   cases b with
   | false=>
     simp only[Option.some.injEq,Prod.mk.injEq] at h
     obtain ⟨rfl,rfl,rfl⟩:=h
     rw[hwant]
     simp only[Bool.false_eq_true,if_false]
     exact hK γ undef w (conc_lit γ _) hR (.refl γ σ)
   | true=>
     rw[hwant]
     simp only[if_true]
     refine .inl ?_
     unfold Oper.wp
     simp only[] at h
     split at h
     ·cases h
     ·rename_i u hev
      simp only[Option.some.injEq,Prod.mk.injEq] at h
      obtain ⟨rfl,rfl,rfl⟩:=h
      obtain ⟨x,h1,h2⟩:=val_ok hE hR.toRel hρ o hev (.inl rfl)
      rw[h1,Oper.upon_value]
      exact hK γ x w h2 hR (.refl γ σ)
     ·rename_i u hev
      simp only[Option.some.injEq,Prod.mk.injEq] at h
      obtain ⟨rfl,rfl,rfl⟩:=h
      obtain ⟨x,h1,h2⟩:=val_ok hE hR.toRel hρ o hev (.inr rfl)
      rw[h1,Oper.upon_value]
      exact hK γ x w h2 hR (.refl γ σ)
     ·rename_i ob k hev
      split at h
      ·rename_i hlt
       have hlt:=blt_t hlt
       simp only[Option.some.injEq,Prod.mk.injEq] at h
       obtain ⟨rfl,rfl,rfl⟩:=h
       obtain ⟨hd,cob,x,top,h1,h2⟩:=new_ok hE (σ:=σ) (w:=w) hρ o hev
       have hg0:γ σ.next=none:=hR.dom _ (Nat.le_refl _)
       have hm:=hR.more hlt ob
       have hget:(σ.heap.put σ.next ob).get σ.next=some ob:=by rw[T.get_put _ _ _ _ (Nat.le_of_lt hlt)];simp
       have hrel:=h2 (upd γ σ.next (some ⟨w.heap.size,0,top⟩)) σ.next { w with heap:=w.heap.push cob } (ext_upd _ hg0) (upd_self _ _ _) (by simp)
       rw[h1,Oper.upon_value]
       exact hK _ x _ hrel.2 (hm.place (id:=σ.next) (by simp) hg0 hget hd cob 0 top hrel.1) (Step.place _ hg0 σ (Nat.le_refl _) (Step.more hR hlt _))
      ·cases h
     ·rename_i u σ2 hev
      simp only[Option.some.injEq,Prod.mk.injEq] at h
      obtain ⟨rfl,rfl,rfl⟩:=h
      obtain ⟨γ',w',nx,h1,h2,h3,h4⟩:=act_ok hE hR hρ o hev
      rw[h1]
      rcases h2 with ⟨x,rfl,hx⟩|⟨rfl,rfl⟩
      ·rw[Oper.upon_value];exact hK γ' x w' hx h3 h4
      ·rw[Oper.upon_skip];exact hK γ' undef w' (conc_lit γ' _) h3 h4
     ·rename_i f args hev
      split at h
      ·rename_i hlone
       rw[Bool.and_eq_true] at hlone
       obtain ⟨ys,hys⟩:=Option.isSome_iff_exists.1 hlone.2
       split at h
       ·rename_i u σ2 hc
        split at h
        ·rename_i y hy
         simp only[Option.some.injEq,Prod.mk.injEq] at h
         obtain ⟨rfl,rfl,rfl⟩:=h
         obtain ⟨xs,hxs,hrun⟩:=call_ok hE (w:=w) hρ o hev
         have hxs':Concs emp args xs.toList:=by
          rw[flats_conc args ys _ hys hxs]
          exact concs_flat args ys hys
         obtain ⟨c1,c2⟩:=hcb f args σe _ _ hc (frz w emp) emp w xs (rel_start w) hxs'
         rw[hrun,c1,Oper.upon_enter]
         refine c2 _ fun γ' x w' hx hr _=>?_
         rw[flat_conc u y x hy hx]
         exact hK γ y w' (conc_flat u y hy) (hR.grown (below_of hr.frame)) (.refl γ σ)
        ·cases h
       ·cases h
      split at h
      ·rename_i u σ2 hc
       simp only[Option.some.injEq,Prod.mk.injEq] at h
       obtain ⟨rfl,rfl,rfl⟩:=h
       obtain ⟨xs,hxs,hrun⟩:=call_ok hE (w:=w) hρ o hev
       obtain ⟨c1,c2⟩:=hcb f args σ _ _ hc F γ w xs hR hxs
       rw[hrun,c1,Oper.upon_enter]
       exact c2 _ fun γ' x w' hx hr hs=>hK γ' x w' hx hr hs
      ·cases h
theorem runA_ok{cb:Cb}(hcb:CbOk P cb){ops:Array Oper}{n:Nat}(hn:n≤lim){Q:Exit→Act→World→Prop}:∀(l:List Oper) (i:Nat) (t t':Tmps) (σ σ':AS) (γ:Gam) (w:World) (a:Act),
  runA E cb n ops.toList l t σ=some (t',σ')→ops.toList.drop i=l→RelL F γ σ w→ConcT γ n t a →
  (∀γ' a' w',RelL F γ' σ' w'→ConcT γ' n t' a'→Step γ σ γ' σ'→Q .normal a' w')→wpOps P ops Q ((List.range (ops.size - i)).map (·+i)) a w
 | [],i,t,t',σ,σ',γ,w,a,h,hd,hR,hT,hQ=>by
   simp only[runA,Option.some.injEq,Prod.mk.injEq] at h
   obtain ⟨rfl,rfl⟩:=h
   have:ops.size - i=0:=by
    have:=congrArg List.length hd
    simpa using this
   rw[this]
   exact hQ γ a w hR hT (.refl γ σ)
 | o::rest,i,t,t',σ,σ',γ,w,a,h,hd,hR,hT,hQ=>by
   have hlt:i<ops.size:=by
    have:=congrArg List.length hd
    simp at this
    omega
   have hi:ops[i]?=some o:=by
    have h1:ops.toList[i]?=some o:=by
     have:(ops.toList.drop i)[0]?=some o:=by rw[hd];rfl
     rw[List.getElem?_drop] at this
     simpa using this
    simpa using h1
   have hrest:ops.toList.drop (i+1)=rest:=by
    have:=congrArg List.tail hd
    simpa [List.tail_drop] using this
   rw[show ops.size - i=(ops.size - (i+1))+1 by omega,List.range_succ_eq_map,List.map_cons,List.map_map,wpOps_cons,Nat.zero_add]
   have hfun:((fun x=>x+i)∘Nat.succ)=(fun x=>x+(i+1)):=by funext x;simp;omega
   rw[hfun]
   simp only[runA] at h
   split at h
   ·rename_i v σ1 tag hs
    split at h
    ·rename_i t1 hp
     refine stepV_ok hE hcb hs hi hR hT fun γ1 x w1 hx hR1 hS1=>?_
     exact runA_ok hcb hn rest (i+1) t1 t' σ1 σ' γ1 w1 _ h hrest hR1 (put_ok (hT.mono hS1.ext) hp hn hx) fun γ' a' w' h1 h2 h3=>hQ γ' a' w' h1 h2 (hS1.trans h3)
    ·cases h
   ·cases h
end
end Go.Proofs.YtmbdghclhpboaaaGreat.Ev
namespace Go.Proofs.YtmbdghclhpboaaaGreat.Ev
theorem has_lor(m i j:Nat):has (Nat.lor m (Nat.shiftLeft 1 i)) j=(has m j || decide (j=i)):=by
 unfold has
 rw[show Nat.lor m (Nat.shiftLeft 1 i)=m ||| (1 <<< i) from rfl,Nat.testBit_or,Nat.testBit_shiftLeft]
 congr 1
 by_cases h:j=i
 ·subst h;simp
 ·by_cases h':i≤j
  ·cases hk:j - i with
   | zero=>omega
   | succ k=>simp[h,h',Nat.testBit_succ]
  ·simp[h,h']
theorem has_zero(j:Nat):has 0 j=false:=by simp[has]
theorem ready_t{done:Nat}{r:Row}:ready done r=true↔∀j,has r.pm j=true→has done j=true:=by
 unfold ready has
 rw[show Nat.land r.pm done=r.pm &&& done from rfl]
 constructor
 ·intro h j hj
  have h:=Nat.eq_of_beq_eq_true h
  have:=congrArg (Nat.testBit · j) h
  simp only[Nat.testBit_and] at this
  rw[hj] at this
  simpa using this
 ·intro h
  have:r.pm &&& done=r.pm:=Nat.eq_of_testBit_eq fun j=>by
   rw[Nat.testBit_and]
   cases hj:Nat.testBit r.pm j with
   | false=>rfl
   | true=>simp[h j hj]
  rw[this]
  exact Nat.beq_refl _
theorem has_predMask(j:Nat):∀l:List Edge,has (predMask l) j=true↔∃e∈l,Region.binds .any e=true∧e.on=j
 | []=>by simp[predMask,has_zero]
 | e::l=>by
   simp only[predMask]
   cases hb:Region.binds .any e with
   | false=>
     simp only[]
     rw[has_predMask j l]
     constructor
     ·rintro ⟨x,h1,h2⟩;exact ⟨x,List.mem_cons_of_mem _ h1,h2⟩
     ·rintro ⟨x,h1,h2,h3⟩
      rcases List.mem_cons.1 h1 with rfl|h1
      ·rw[hb] at h2;cases h2
      ·exact ⟨x,h1,h2,h3⟩
   | true=>
     simp only[]
     rw[show Nat.lor (Nat.shiftLeft 1 e.on) (predMask l)=Nat.lor (predMask l) (Nat.shiftLeft 1 e.on) from Nat.or_comm _ _,has_lor,Bool.or_eq_true,has_predMask j l,decide_eq_true_iff]
     constructor
     ·rintro (⟨x,h1,h2⟩|rfl)
      ·exact ⟨x,List.mem_cons_of_mem _ h1,h2⟩
      ·exact ⟨e,by simp,hb,rfl⟩
     ·rintro ⟨x,h1,h2,h3⟩
      rcases List.mem_cons.1 h1 with rfl|h1
      ·exact .inr h3.symm
      ·exact .inl ⟨x,h1,h2,h3⟩
theorem has_lt{m i j:Nat}(h:Nat.blt m (Nat.shiftLeft 1 i)=true)(hj:has m j=true):j<i:=by
 have h1:m<1 <<< i:=blt_t h
 rw[Nat.one_shiftLeft] at h1
 have h2:=Nat.ge_two_pow_of_testBit hj
 exact (Nat.pow_lt_pow_iff_right (a:=2) (by omega)).1 (Nat.lt_of_le_of_lt h2 h1)
theorem memN_t:∀{l:List Nat} {n:Nat},memN l n=true↔n∈l
 | [],n=>by simp[memN]
 | x::l,n=>by
   simp only[memN]
   cases hb:Nat.beq x n with
   | true=>simp[Nat.eq_of_beq_eq_true hb]
   | false=>simp[memN_t,Ne.symm (Nat.ne_of_beq_eq_false hb)]
theorem memN_f{l:List Nat}{n:Nat}(h:memN l n=false):n∉l:=fun hm=>by rw[memN_t.2 hm] at h;cases h
def mkRow(ops:Array Oper)(i:Nat)(o:Oper):Row:=⟨i,o,predMask o.after.toList,early o.op,o.looksAt ops⟩
theorem rowsFrom_mem{ops:Array Oper}:∀{l:List Oper} {i:Nat} {r:Row},r∈rowsFrom ops i l↔∃k o,l[k]?=some o∧r=mkRow ops (i+k) o
 | [],i,r=>by simp[rowsFrom]
 | o::l,i,r=>by
   simp only[rowsFrom,List.mem_cons]
   rw[rowsFrom_mem]
   constructor
   ·rintro (rfl|⟨k,p,h1,h2⟩)
    ·exact ⟨0,o,rfl,rfl⟩
    ·exact ⟨k+1,p,by simpa using h1,by rw[h2,show i+1+k=i+(k+1) by omega]⟩
   ·rintro ⟨k,p,h1,h2⟩
    cases k with
    | zero=>simp only[List.getElem?_cons_zero,Option.some.injEq] at h1;subst h1;exact .inl h2
    | succ k=>exact .inr ⟨k,p,by simpa using h1,by rw[h2,show i+1+k=i+(k+1) by omega]⟩
structure PairOk(a b:Row):Prop where
 looks:∀d,a.o.dst=some d→d∈b.looks→has b.pm a.i=true∨(has a.pm b.i=true∧a.early=false)
 dst:∀d,a.o.dst=some d→b.o.dst=some d→a.early=false∧b.early=false
theorem pairOk_t{a b:Row}(h:pairOk a b=true):PairOk a b:=by
 unfold pairOk at h
 cases hd:a.o.dst with
 | none=>exact ⟨fun d e _=>by simp[hd] at e,fun d e _=>by simp[hd] at e⟩
 | some d=>
   rw[hd] at h
   simp only[Bool.and_eq_true] at h
   obtain ⟨h1,h2⟩:=h
   refine ⟨fun d' e hm=>?_,fun d' e e'=>?_⟩<;>(have e:=Option.some.inj (hd.symm.trans e);subst e)
   ·rw[memN_t.2 hm] at h1
    simpa using h1
   ·rw[e'] at h2
    simp only[Nat.beq_refl,Bool.and_eq_true,Bool.not_eq_true'] at h2
    exact ⟨h2.1.2,h2.2⟩
structure RowsOk(ops:Array Oper)(rows:List Row):Prop where
 row:∀r∈rows,ops[r.i]?=some r.o∧r=mkRow ops r.i r.o
 all:∀i o,ops[i]?=some o→mkRow ops i o∈rows
 lt:∀r∈rows,∀j,has r.pm j=true→j<r.i
 self:∀r∈rows,r.early=true→∀d,r.o.dst=some d→d∉r.looks
 pair:∀r∈rows,∀q∈rows,r.i≠q.i→PairOk r q
theorem RowsOk.eq{ops:Array Oper}{rows:List Row}(h:RowsOk ops rows){r q:Row}(hr:r∈rows)(hq:q∈rows)(e:r.i=q.i):r=q:=by
 obtain ⟨h1,h2⟩:=h.row r hr
 obtain ⟨h3,h4⟩:=h.row q hq
 rw[e,h3] at h1
 rw[h2,h4,e,Option.some.inj h1]
theorem indep_ok:∀{l:List Row},indep l=true→(∀r∈l,Nat.blt r.pm (Nat.shiftLeft 1 r.i)=true∧selfOk r=true)∧∀r∈l,∀q∈l,r.i≠q.i→pairOk r q=true
 | [],_=>⟨by simp,by simp⟩
 | x::l,h=>by
   simp only[indep,Bool.and_eq_true,List.all_eq_true] at h
   obtain ⟨⟨⟨h1,h2⟩,h3⟩,h4⟩:=h
   obtain ⟨i1,i2⟩:=indep_ok h4
   refine ⟨fun r hr=>?_,fun r hr q hq hne=>?_⟩
   ·rcases List.mem_cons.1 hr with rfl|hr
    ·exact ⟨h1,h2⟩
    ·exact i1 r hr
   ·rcases List.mem_cons.1 hr with er|hr<;>rcases List.mem_cons.1 hq with eq|hq
    ·exact absurd (by rw[er,eq]) hne
    ·rw[er];exact (h3 q hq).1
    ·rw[eq];exact (h3 r hr).2
    ·exact i2 r hr q hq hne
theorem rows_ok{ops:Array Oper}(h:indep (rowsFrom ops 0 ops.toList)=true):RowsOk ops (rowsFrom ops 0 ops.toList):=by
 obtain ⟨h1,h2⟩:=indep_ok h
 refine ⟨fun r hr=>?_,fun i o ho=>?_,fun r hr j hj=>has_lt (h1 r hr).1 hj,fun r hr he d hd hm=>?_,fun r hr q hq hne=>pairOk_t (h2 r hr q hq hne)⟩
 ·obtain ⟨k,o,hk,rfl⟩:=rowsFrom_mem.1 hr
  refine ⟨?_,rfl⟩
  simp only[mkRow,Nat.zero_add]
  simpa using hk
 ·exact rowsFrom_mem.2 ⟨i,o,by simpa using ho,by rw[Nat.zero_add]⟩
 ·have:=(h1 r hr).2
  unfold selfOk at this
  rw[he,hd] at this
  simp only[Bool.not_eq_true'] at this
  exact memN_f this hm
theorem evOp_pure{E:Env}{t:Tmps}{σ:AS}{op:Op}{v:AV}(σ':AS)(h:evOp E t σ op=some (.pure v)):evOp E t σ' op=some (.pure v):=by
 cases op<;>simp only[evOp] at h ⊢<;>first|exact h|skip
 case convert src dst x=>
  split at h
  ·rename_i y hy
   unfold convA at h ⊢
   (repeat' split at h)<;>first|cases h|skip
   all_goals first|(simp_all;done)|skip
   all_goals (obtain ⟨_,_,e⟩:=Option.map_eq_some_iff.1 h;cases e)
  ·cases h
 case call c=>
  split at h
  ·cases h
  ·rename_i as ha
   split at h
   ·exact h
   ·rename_i b hb
    unfold builtinA at h ⊢
    (repeat' split at h)<;>first|cases h|(simp_all;done)|(obtain ⟨_,_,e⟩:=Option.map_eq_some_iff.1 h;cases e)|skip
   ·exact h
 all_goals
  (repeat' split at h)<;>first|cases h|(obtain ⟨_,_,e⟩:=Option.map_eq_some_iff.1 h;cases e)
theorem evOp_new{E:Env}{t:Tmps}{σ:AS}{op:Op}{ob:AObj}{k:NewK}(σ':AS)(h:evOp E t σ op=some (.new ob k)):evOp E t σ' op=some (.new ob k):=by
 cases op<;>simp only[evOp] at h ⊢<;>first|exact h|skip
 case convert src dst x=>
  split at h
  ·rename_i y hy
   unfold convA at h
   (repeat' split at h)<;>first|cases h|(obtain ⟨_,_,e⟩:=Option.map_eq_some_iff.1 h;cases e)
  ·cases h
 case call c=>
  split at h
  ·cases h
  ·rename_i as ha
   split at h
   ·unfold fnCall at h
    (repeat' split at h)<;>cases h
   ·rename_i b hb
    unfold builtinA at h
    (repeat' split at h)<;>first|cases h|(obtain ⟨_,_,e⟩:=Option.map_eq_some_iff.1 h;cases e)
   ·(repeat' split at h)<;>cases h
 all_goals
  (repeat' split at h)<;>first|cases h|(obtain ⟨_,_,e⟩:=Option.map_eq_some_iff.1 h;cases e)
theorem evOp_early{E:Env}{t:Tmps}{σ:AS}{op:Op}{out:Out}(he:early op=true)(h:evOp E t σ op=some out) :
  (∃v,out=.pure v)∨(∃v,out=.read v)∨∃ob k,out=.new ob k:=by
 cases op<;>simp only[early,Bool.false_eq_true] at he<;>simp only[evOp] at h
 case convert src dst x=>
  split at h
  ·rename_i y hy
   unfold convA at h
   (repeat' split at h)<;>first
    | (simp at h;done)
    | (simp only[Option.some.injEq] at h;subst h;first|exact .inl ⟨_,rfl⟩|exact .inr (.inl ⟨_,rfl⟩)|exact .inr (.inr ⟨_,_,rfl⟩))
    | (obtain ⟨_,_,rfl⟩:=Option.map_eq_some_iff.1 h;exact .inr (.inl ⟨_,rfl⟩))
  ·cases h
 case call c=>
  split at h
  ·cases h
  ·rename_i as ha
   split at he
   all_goals first|cases he|skip
   all_goals (rename_i hb;simp only[hb] at h;unfold builtinA at h;(repeat' split at h)<;>first|cases h|(obtain ⟨_,_,rfl⟩:=Option.map_eq_some_iff.1 h;first|exact .inl ⟨_,rfl⟩|exact .inr (.inl ⟨_,rfl⟩))|(simp at *;done))
 all_goals
  (repeat' split at h)<;>first
   | (simp at h;done)
   | (simp only[Option.some.injEq] at h;subst h;first|exact .inl ⟨_,rfl⟩|exact .inr (.inl ⟨_,rfl⟩)|exact .inr (.inr ⟨_,_,rfl⟩))
   | (obtain ⟨_,_,rfl⟩:=Option.map_eq_some_iff.1 h;first|exact .inl ⟨_,rfl⟩|exact .inr (.inl ⟨_,rfl⟩)|exact .inr (.inr ⟨_,_,rfl⟩))
   | (simp only[Option.some.injEq] at h;subst h;first|exact .inl ⟨_,rfl⟩|exact .inr (.inl ⟨_,rfl⟩)|exact .inr (.inr ⟨_,_,rfl⟩))
end Go.Proofs.YtmbdghclhpboaaaGreat.Ev
