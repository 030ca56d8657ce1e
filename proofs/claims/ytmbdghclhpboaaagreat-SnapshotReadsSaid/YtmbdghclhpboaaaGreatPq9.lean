/- Part of the proof: EvR. Conditions: as each states. -/
import Derived.Test.YtmbdghclhpboaaaGreatPq8
set_option linter.all false
namespace Go.Proofs.YtmbdghclhpboaaaGreat.Ev
section
variable{F:dN}{P:Program}{E:Env}(hE:cL P E){γ:aT}{σ:AS}{w:World}{t:aE}{ρ:Operand->Value}
include hE
omit hE in
theorem QL(hR:aU F γ σ w){it v:AV}{cJ:AS}(h:KV σ it=some (v,cJ)){y:Value}(hx:aw γ it y){ty:TypeId} :
  ∃w' u,(Instr.next y false ty).run P w=.ok u w'/\aw γ v u/\aU F γ cJ w'/\Step γ σ γ cJ:=by
 unfold KV at h;split at h
 ·rename_i r0;split at h
  ·rename_i m since seen last hg;split at h
   ·rename_i es clock hm;split at h
    ·cases h
    ·rename_i Xb;simp only[aw] at hx;obtain ⟨a,rfl,ha⟩:=hx;obtain ⟨p,hp,wY,rr,hb,BU⟩:=hR.find hg (by simp) ha.ne;obtain rfl:=ha.at hp;obtain ⟨q,hq,es',PV,he⟩:=hR.find hm (by simp) BU.ne;obtain rfl:=BU.at hq;have ph:(getObj p.block).run P w=.ok (.mapIter (some q.block) since seen.toArray last) w:=by simp[getObj,Sem.run,hb]
     have Dz:(getObj q.block).run P w=.ok (.map es' clock) w:=by simp[getObj,Sem.run,PV]
     have hlen:=oO he;have Te:es'.isEmpty=es.isEmpty:=by
      cases es with
      | nil=>simp at hlen;simp[hlen]
      | cons e es=>cases pg:es'.isEmpty with
        | true=>simp at pg;subst pg;simp at hlen
        | false=>rfl
     have NI:es'.all (·.born>=last)=es.all (fun e=>Nat.ble last e.2.2):=by
      have:=zl (fun b=>decide (b>=last)) he;rw[<-Array.all_toList,this];congr 1;funext e;rw[Bool.eq_iff_iff,decide_eq_true_iff];exact ⟨fun h=>Nat.ble_eq_true_of_le h,fun h=>nB1 h⟩
     have hcond':(!seen.toArray.isEmpty&&!es'.isEmpty&&es'.all (·.born>=last))=false:=by
      rw[Te,NI];simpa using Xb
     have P8:=jG (fun b=>!seen.contains b) he;have hold:=jG (fun b=>Nat.blt b since) P8;have lA:=jG (fun b=>Nat.ble since b) P8;have e1:(es'.filter fun e=>!seen.toArray.contains e.born).toList=es'.toList.filter fun e=>!seen.contains e.born:=by simp
     have e2:((es'.filter fun e=>!seen.toArray.contains e.born).filter (·.born<since)).toList=(es'.toList.filter fun e=>!seen.contains e.born).filter fun e=>Nat.blt e.born since:=by
      rw[Array.toList_filter,e1];congr 1;funext e;rw[Bool.eq_iff_iff,decide_eq_true_iff];exact ⟨fun h=>Nat.ble_eq_true_of_le h,fun h=>nB1 h⟩
     have e3:((es'.filter fun e=>!seen.toArray.contains e.born).filter (·.born>=since)).toList=(es'.toList.filter fun e=>!seen.contains e.born).filter fun e=>Nat.ble since e.born:=by
      rw[Array.toList_filter,e1];congr 1;funext e;rw[Bool.eq_iff_iff,decide_eq_true_iff];exact ⟨fun h=>Nat.ble_eq_true_of_le h,fun h=>nB1 h⟩
     simp only[] at h;split at h
     ·rename_i Xj Xk;simp only[Option.some.injEq,Prod.mk.injEq] at h;obtain ⟨rfl,rfl⟩:=h;rw[Xj] at hold;rw[Xk] at lA;simp only[bf] at hold lA;rw[hold] at e2;rw[lA] at e3;have e2':(es'.filter fun e=>!seen.toArray.contains e.born).filter (·.born<since)=#[]:=by simpa using e2
      have e3':(es'.filter fun e=>!seen.toArray.contains e.born).filter (·.born>=since)=#[]:=by simpa using e3
      refine ⟨w,.tuple #[.bool false],?_,?_,hR,.refl γ σ⟩
      ·unfold Instr.next
       rw[wY];simp only[Sem.run_bind,ph,Result.andThen_ok,Dz,hcond',Bool.false_eq_true,if_false,e2',e3'];have:((if (#[]:Array MapEntry).isEmpty=true then #[none] else #[])++Array.map some ((#[]:Array MapEntry)++#[]):Array (Option MapEntry))=#[none]:=by simp
       rw[this];simp only[run_choose];have hq:(Question.mapNext (#[(none:Option MapEntry)]:Array (Option MapEntry)).size).forced=true:=rfl;simp only[hq,if_true,Result.andThen_ok];rfl
      ·simp only[aw];exact ⟨_,rfl,by simp only[aG];exact ⟨.bool false,[],rfl,aS γ _,rfl⟩⟩
     ·rename_i k u born Xj Xk;simp only[Option.some.injEq,Prod.mk.injEq] at h;obtain ⟨rfl,rfl⟩:=h;rw[Xj] at hold;rw[Xk] at lA;simp only[bf] at hold lA;obtain ⟨k',u',rest,KN,hk,hu,rfl⟩:=hold;rw[KN] at e2;rw[lA] at e3;have e2':(es'.filter fun e=>!seen.toArray.contains e.born).filter (·.born<since)=#[⟨k',u',born⟩]:=Array.toList_inj.1 e2;have e3':(es'.filter fun e=>!seen.toArray.contains e.born).filter (·.born>=since)=#[]:=by simpa using e3
      have fP:(Go.setObj p.block (.mapIter (some q.block) since (seen.toArray.push born) clock)).run P w=.ok () { w with heap:=w.heap.setIfInBounds p.block (.mapIter (some q.block) since (seen.toArray.push born) clock) }:=by
       simp[Go.setObj,Sem.run,hb]
      have an:=(Array.getElem?_eq_some_iff.1 hb).1;refine ⟨_,.tuple #[.bool true,k',u'],?_,?_,aU.set (w':={ w with heap:=w.heap.setIfInBounds p.block (.mapIter (some q.block) since (seen.toArray.push born) clock) }) hR hp (by simp) ?_ ?_,Step.set hR _ hp⟩
      ·unfold Instr.next
       rw[wY];simp only[Sem.run_bind,ph,Result.andThen_ok,Dz,hcond',Bool.false_eq_true,if_false,e2',e3'];have:((if (#[⟨k',u',born⟩]:Array MapEntry).isEmpty=true then #[none] else #[])++Array.map some (#[⟨k',u',born⟩]++#[]):Array (Option MapEntry))=#[some ⟨k',u',born⟩]:=by simp
       rw[this];simp only[run_choose];have hq:(Question.mapNext (#[some (⟨k',u',born⟩:MapEntry)]:Array (Option MapEntry)).size).forced=true:=rfl;simp only[hq,if_true,Result.andThen_ok];have:(#[some (⟨k',u',born⟩:MapEntry)]:Array (Option MapEntry))[0]?=some (some ⟨k',u',born⟩):=rfl;rw[this];simp only[Sem.run_bind,fP,Result.andThen_ok,Sem.run_pure]
      ·simp only[aw];exact ⟨_,rfl,by simp only[aG];exact ⟨.bool true,[k',u'],rfl,aS γ _,k',[u'],rfl,hk,u',[],rfl,hu,rfl⟩⟩
      ·refine ⟨wY,q.block,?_,by unfold mw;rw[hq]⟩;simp[an]
      ·exact y9 w p.block _
     ·cases h
   ·cases h
  ·cases h
 ·cases h
theorem LS(hR:aU F γ σ w)(bJ:pM γ t ρ)(o:Oper){v:AV}{cJ:AS}(h:bK E t σ o.op=some (.act v cJ)) :
  ∃ay w' n,(execOp ρ o).run P w=.ok n w'/\((∃x,n=.value x/\aw ay v x)\/(n=.skip/\v=aQ))/\aU F ay cJ w'/\Step γ σ ay cJ:=by
 obtain ⟨dst,op,type,pos,after,guard⟩:=o;simp only[] at h;cases op<;>simp only[bK] at h
 case assign x=>
  obtain ⟨u,hu,e⟩:=oM1.1 h;cases e
  exact ⟨γ,w,.value (ρ x),rfl,.inl ⟨_,rfl,bJ _ _ hu⟩,hR,.refl γ σ⟩
 case store ty a x=>
  split at h
  ·rename_i av xv ha hx;obtain ⟨u,hu,e⟩:=oM1.1 h;cases e
   obtain ⟨w',h1,h2,h3⟩:=OD hE hR hu (bJ _ _ ha) (bJ _ _ hx);refine ⟨γ,w',.skip,?_,.inr ⟨rfl,rfl⟩,h2,h3⟩;simp only[execOp,Sem.run_bind,h1,Result.andThen_ok,Sem.run_pure]
  ·cases h
 case mapUpdate ty m k x=>
  split at h
  ·rename_i mv kv xv hm hk hx;obtain ⟨u,hu,e⟩:=oM1.1 h;cases e
   obtain ⟨w',h1,h2,h3⟩:=Df hE hR hu (bJ _ _ hm) (bJ _ _ hk) (bJ _ _ hx);refine ⟨γ,w',.skip,?_,.inr ⟨rfl,rfl⟩,h2,h3⟩;simp only[execOp,Sem.run_bind,h1,Result.andThen_ok,Sem.run_pure]
  ·cases h
 case insert ty m k x=>
  split at h
  ·rename_i mv kv xv hm hk hx;obtain ⟨u,hu,e⟩:=oM1.1 h;cases e
   obtain ⟨w',h1,h2,h3⟩:=Df hE hR hu (bJ _ _ hm) (bJ _ _ hk) (bJ _ _ hx);refine ⟨γ,w',.skip,?_,.inr ⟨rfl,rfl⟩,h2,h3⟩;simp only[execOp,Sem.run_bind,h1,Result.andThen_ok,Sem.run_pure]
  ·cases h
 case range ty x=>
  split at h
  ·rename_i r o hr hx;split at h
   ·rename_i kt et es clock hd hg;split at h
    ·rename_i an;have an:=gZ an;simp only[Option.some.injEq,Out.act.injEq] at h;obtain ⟨rfl,rfl⟩:=h;have hc:=bJ _ _ hx;simp only[aw] at hc;obtain ⟨b,hb,Tr⟩:=hc;obtain ⟨p,hp,es',PV,he⟩:=hR.find hg (by simp) Tr.ne;obtain rfl:=Tr.at hp;have og:γ σ.next=none:=hR.j6 _ (Nat.le_refl _)
     have hm:=hR.more an (.iter o clock [] clock);have dz:(σ.heap.put σ.next (ai.iter o clock [] clock)).get σ.next=some (.iter o clock [] clock):=by rw[T.bN _ _ _ _ (Nat.le_of_lt an)];simp
     have hx:=jH (some ⟨w.heap.size,0,0⟩) og;refine ⟨gh γ σ.next (some ⟨w.heap.size,0,0⟩),{ w with heap:=w.heap.push (.mapIter (some p.block) clock #[] clock) },.value (.pointer (some ⟨w.heap.size,0,none⟩)),?_,.inl ⟨_,rfl,?_⟩,hm.place (id:=σ.next) (base:=0) (top:=0) (by simp) og dz (by simp) _ ?_,Step.place _ og σ (Nat.le_refl _) (Step.more hR an _)⟩
     ·have ph:(getObj p.block).run P w=.ok (.map es' clock) w:=by simp[getObj,Sem.run,PV]
      simp only[execOp];refine dE ?_;rw[hb];unfold Instr.range;simp only[Sem.run_bind,bn hE hr w,hd,Result.andThen_ok,ph,Sem.run_pure,run_newObj]
     ·simp only[aw];exact ⟨_,rfl,by unfold gY;rw[bI]⟩
     ·refine ⟨rfl,p.block,by simp,Tr.mono hx⟩
    ·cases h
   ·cases h
  ·cases h
 case next it isString=>
  split at h
  ·rename_i iv hi;obtain ⟨⟨u,rR⟩,hu,e⟩:=oM1.1 h;cases e
   obtain ⟨w',z,h1,h2,h3,h4⟩:=QL (P:=P) (ty:=type) hR hu (bJ _ _ hi);exact ⟨γ,w',.value z,by simp only[execOp];exact dE h1,.inl ⟨_,rfl,h2⟩,h3,h4⟩
  ·cases h
 case call c=>
  split at h
  ·cases h
  ·rename_i args iD;have hc:=fI bJ iD;split at h
   ·split at h
    ·unfold pC at h;split at h<;>cases h
    ·cases h
   ·rename_i b rX;simp only[execOp,resolve,rX,invoke,builtin];have get:∀(i:Nat) (v:AV),args[i]?=some v->∃x,(c.args.map ρ)[i]?=some x/\aw γ v x:=by
     intro i v hv;obtain ⟨x,hx,ll⟩:=dQ hc i v hv;exact ⟨x,by rw[<-Array.getElem?_toList,Array.toList_map];exact hx,ll⟩
    unfold gP at h;split at h
    ·obtain ⟨u,hu,e⟩:=oM1.1 h;cases e
    ·rename_i ty rest s x nP;split at h
     ·rename_i xt aac;split at h
      ·rename_i xr yz;split at h
       ·cases h
       ·rename_i DE;obtain ⟨⟨u,rR⟩,hu,e⟩:=oM1.1 h;cases e
        obtain ⟨s',mN,oU⟩:=get 0 s rfl;obtain ⟨x',DD,XP⟩:=get 1 x rfl;obtain ⟨ay,w',z,h1,h2,h3,h4⟩:=Kb hE hR (tt:=type) (ts:=c.argTypes) (ys:=c.args.map ρ) hu oU XP (by rw[<-Array.getElem?_toList,nP];rfl) (by rw[<-Array.getElem?_toList,aac];rfl) mN DD yz (fun k=>DE k);refine ⟨ay,w',.value z,?_,.inl ⟨_,rfl,h2⟩,h3,h4⟩;simp only[Sem.run_bind,Sem.run_pure,Result.andThen_ok,builtin,h1]
      ·cases h
     ·cases h
    ·rename_i ty rest d x nP;obtain ⟨⟨u,rR⟩,hu,e⟩:=oM1.1 h;cases e
     obtain ⟨d',sh,Dx⟩:=get 0 d rfl;obtain ⟨x',DD,XP⟩:=get 1 x rfl;obtain ⟨w',z,h1,h2,h3,h4⟩:=Pp hE hR (tt:=type) (ts:=c.argTypes) (ys:=c.args.map ρ) hu Dx XP (by rw[<-Array.getElem?_toList,nP];rfl) sh DD;refine ⟨γ,w',.value z,?_,.inl ⟨_,rfl,h2⟩,h3,h4⟩;simp only[Sem.run_bind,Sem.run_pure,Result.andThen_ok,builtin,h1]
    ·rename_i ty rest m k nP;obtain ⟨rR,hu,e⟩:=oM1.1 h;cases e
     obtain ⟨m',KJ,yu⟩:=get 0 m rfl;obtain ⟨k',eQ,dS⟩:=get 1 k rfl;obtain ⟨w',h1,h3,h4⟩:=Kn hE hR (tt:=type) (ts:=c.argTypes) (ys:=c.args.map ρ) hu yu dS (by rw[<-Array.getElem?_toList,nP];rfl) KJ eQ;refine ⟨γ,w',.value (.tuple #[]),?_,.inl ⟨_,rfl,aS γ _⟩,h3,h4⟩;simp only[Sem.run_bind,Sem.run_pure,Result.andThen_ok,builtin,h1]
    ·obtain ⟨u,hu,e⟩:=oM1.1 h;cases e
    ·obtain ⟨u,hu,e⟩:=oM1.1 h;cases e
    ·cases h
   ·(repeat' split at h)<;>cases h
 case convert src dst x=>
  split at h
  ·unfold nL at h;(repeat' split at h)<;>first|cases h|(obtain ⟨_,_,e⟩:=oM1.1 h;cases e)
  ·cases h
 all_goals
  (repeat' split at h)<;>first|cases h|(obtain ⟨_,_,e⟩:=oM1.1 h;cases e)
end
end Go.Proofs.YtmbdghclhpboaaaGreat.Ev
namespace Go.Proofs.YtmbdghclhpboaaaGreat.Ev
def T.mask{α:Type}:(Nat->Bool)->T α->T α
 | _,.e=>.e
 | p,.n v l r=>.n (if p 0 then none else v) (T.mask (fun i=>p (2 * i+1)) l) (T.mask (fun i=>p (2 * i+2)) r)
theorem T.eW{α:Type}:∀(p:Nat->Bool) (t:T α) (i:Nat),(T.mask p t).get i=if p i then none else t.get i
 | p,.e,i=>by simp[T.mask,T.get]
 | p,.n v l r,i=>by
   cases i with
   | zero=>simp[T.mask,T.get]
   | succ i=>
     simp only[T.mask,T.get];cases hb:Nat.beq (i % 2) 0 with
     | true=>
       have:=Fo hb;simp only[];rw[T.eW];rw[show 2 * (i / 2)+1=i+1 by omega]
     | false=>
       have:=Fm hb;simp only[];rw[T.eW];rw[show 2 * (i / 2)+2=i+1 by omega]
theorem lO{t t':aE}:∀{l:List Operand},(∀x∈l,aL t x=aL t' x)->kD t l=kD t' l
 | [],_=>rfl
 | x::l,h=>by
   unfold kD;simp only[List.map_cons,h x (by simp)];have:l.map (aL t)=l.map (aL t'):=List.map_congr_left fun y hy=>h y (by simp[hy]);rw[this]
theorem rm{t t':aE}{x:Option Operand}(h:∀y∈x.toArray,aL t y=aL t' y):rk t x=rk t' x:=by
 cases x with
 | none=>rfl
 | some y=>simp only[rk,h y (by simp)]
theorem Ig{E:Env}{t t':aE}{σ:AS}(op:Op)(h:∀x∈op.operands,aL t x=aL t' x):bK E t σ op=bK E t' σ op:=by
 cases op<;>simp only[Op.operands] at h<;>simp only[bK]
 case build ty parts=>
  rw[lO (t':=t') fun x hx=>h x (by simpa using hx)]
 case buildSlice ty n parts=>
  rw[lO (t':=t') fun x hx=>h x (by simpa using hx)]
 case makeFunc fn first captured=>
  rw[lO (l:=first.toList) (t':=t') fun x hx=>h x (by simp at hx;simp[hx]),lO (l:=captured.toList) (t':=t') fun x hx=>h x (by simp at hx;simp[hx])]
 case slice ty x lo hi mx=>
  rw[h x (by simp),rm (x:=lo) (t':=t') fun y hy=>h y (by simp only[Array.mem_append];exact .inl (.inl (.inr hy))),rm (x:=hi) (t':=t') fun y hy=>h y (by simp only[Array.mem_append];exact .inl (.inr hy)),
   rm (x:=mx) (t':=t') fun y hy=>h y (by simp only[Array.mem_append];exact .inr hy)]
 case call c=>
  have ha:kD t c.args.toList=kD t' c.args.toList:=lO fun x hx=>h x (by simp[Call.operands] ; right;simpa using hx);rw[ha];cases hc:c.callee with
  | value f=>simp only[h f (by simp[Call.operands,hc])]
  | invoke r m=>simp only[h r (by simp[Call.operands,hc])]
  | builtin b=>rfl
 all_goals
  first
   | rfl
   | (rename_i x;simp only[h x (by simp)];done)
   | (simp at h;simp only[h];done)
theorem pc{γ:aT}{n:Nat}{t:aE}{a:Act}{ops:Array Oper}{o:Oper}{b:Bool}(h:dD ops.toList t o=some b)(hT:∀d v,(o.guard.bind fun g=>(ops[g.1]?).bind (·.dst))=some d->t.get d=some v->∃x,a.tmps[d]?=some x/\aw γ v x) :
  Region.wanted o (yielded ops a.tmps)=b:=by
 unfold dD at h;unfold Region.wanted;cases hg:o.guard with
 | none=>rw[hg] at h;simp only[Option.some.injEq] at h;exact h
 | some g=>
   obtain ⟨j,want⟩:=g;rw[hg] at h;simp only[] at h ⊢;split at h
   ·rename_i p hp;split at h
    ·rename_i d hd;have bX:ops[j]?=some p:=by simpa using hp
     have hb:(o.guard.bind fun g=>(ops[g.1]?).bind (·.dst))=some d:=by rw[hg];simp[bX,hd]
     split at h
     ·rename_i c hc;simp only[Option.some.injEq] at h;obtain ⟨x,hx,ll⟩:=hT d _ hb hc;rw[au] at ll;subst ll;unfold yielded;simp only[bX,Option.bind_some,hd,hx];rw[<-h];cases c<;>cases want<;>rfl
     ·rename_i c hc;simp only[Option.some.injEq] at h;obtain ⟨x,hx,ll⟩:=hT d _ hb hc;rw[au] at ll;subst ll;unfold yielded;simp only[bX,Option.bind_some,hd,hx];rw[<-h];rfl
     ·cases h
    ·cases h
   ·cases h
theorem Dh{ops:Array Oper}{t t':aE}{o:Oper}(h:∀d,(o.guard.bind fun g=>(ops[g.1]?).bind (·.dst))=some d->t.get d=t'.get d):dD ops.toList t o=dD ops.toList t' o:=by
 unfold dD;cases hg:o.guard with
 | none=>rfl
 | some g=>
   obtain ⟨j,want⟩:=g;simp only[];cases hp:ops.toList[j]? with
   | none=>rfl
   | some p=>
     simp only[];cases hd:p.dst with
     | none=>rfl
     | some d=>
       have bX:ops[j]?=some p:=by simpa using hp
       simp only[];rw[h d (by rw[hg];simp[bX,hd])]
theorem oq{γ:aT}{n:Nat}{t t':aE}{a:Act}{d:Option Nat}{v:AV}{x:Value}(hT:cW γ n t a)(h:o3 n t d v=some t')(hn:n<=aY)(hx:aw γ v x):cW γ n t' (a.put d x):=by
 unfold o3 at h;cases d with
 | none=>simp only[Option.some.injEq] at h;subst h;exact hT
 | some d=>
   simp only[] at h;split at h
   ·rename_i an;have an:=gZ an;simp only[Option.some.injEq] at h;subst h;refine ⟨by simpa [Act.put] using hT.size,hT.defers,fun i u hu=>?_⟩;rw[T.bN _ _ _ _ (by omega)] at hu;have jD:=hT.size;by_cases e:i=d
    ·subst e;rw[if_pos rfl] at hu;simp only[Option.some.injEq] at hu;subst hu;exact ⟨x,by simp only[Act.put];rw[Array.getElem?_setIfInBounds_self_of_lt (by omega)],hx⟩
    ·rw[if_neg e] at hu;obtain ⟨y,hy,hc⟩:=hT.get i u hu;exact ⟨y,by simp only[Act.put];rw[Array.getElem?_setIfInBounds_ne (Ne.symm e)];exact hy,hc⟩
   ·cases h
theorem cW.mono{γ ay:aT}{n:Nat}{t:aE}{a:Act}(hx:Ext γ ay)(h:cW γ n t a):cW ay n t a:=
 ⟨h.size,h.defers,fun i v hv=>let ⟨x,h1,h2⟩:=h.get i v hv;⟨x,h1,h2.mono hx _ _⟩⟩
def sz(P:Program)(cb:Cb):Prop:=
 ∀f args σ v cJ,cb f args σ=some (v,cJ)->∀F γ w (xs:Array Value),aU F γ σ w->aG γ args xs.toList ->
  (callFunc f xs).run P w=.ok (.enter f xs) w/\∀R:Ending->World->Prop,(∀ay x w',aw ay v x->aU F ay cJ w'->Step γ σ ay cJ->R (.returned x) w')->Calls P f xs w R
section
variable{F:dN}{P:Program}{E:Env}(hE:cL P E){γ:aT}{σ:AS}{w:World}{t:aE}{ρ:Operand->Value}
include hE
theorem K4{ty:TypeId}{v:AV}{y:Value}{r:dd}{name:String}{m:Method}{f:FuncId}(hr:E.ty ty=some r)(hm:r.info.methods.find? (·.name==name)=some m)(hp:m.path.isEmpty=true)(hf:m.func=some (f,true))
  {e:TypeId} (hd:r.bp=.pointer e) (k:Nat):(method (k+1) ty y name).run P w=.ok (f,y) w:=by
 have cE:m.path.toList=[]:=by simpa using hp
 unfold method;simp only[Sem.run_bind,mT hE hr w,Result.andThen_ok,hm,cE,follow,Sem.run_pure,hf,receiverAt,bn hE hr w,hd,Place.get]
theorem Bg(bJ:pM γ t ρ)(o:Oper){f:Nat}{args:List AV}(h:bK E t σ o.op=some (.call f args)) :
  ∃xs:Array Value,aG γ args xs.toList/\(execOp ρ o).run P w=(callFunc f xs).run P w:=by
 obtain ⟨dst,op,type,pos,after,guard⟩:=o;simp only[] at h;cases op<;>simp only[bK] at h
 case call c=>
  split at h
  ·cases h
  ·rename_i as iD;have hc:=fI bJ iD;split at h
   ·rename_i fo rX;split at h
    ·rename_i fv hfv;have NJ:=bJ _ _ hfv;unfold pC at h;split at h
     ·rename_i g first cap
      simp only[Option.some.injEq,Out.call.injEq] at h;obtain ⟨rfl,rfl⟩:=h;rw[au] at NJ;refine ⟨first++c.args.map ρ++cap,?_,?_⟩
      ·simp only[Array.toList_append,Array.toList_map];exact fA (fA (lz γ _) hc) (lz γ _)
      ·simp only[execOp,resolve,rX,NJ,Deferred.ofValue,Sem.run_bind,Sem.run_pure,Result.andThen_ok,invoke]
     ·rename_i g first cap
      simp only[Option.some.injEq,Out.call.injEq] at h;obtain ⟨rfl,rfl⟩:=h;simp only[aw] at NJ;obtain ⟨a',b',NJ,h1,h2⟩:=NJ;refine ⟨a'++c.args.map ρ++b',?_,?_⟩
      ·simp only[Array.toList_append,Array.toList_map];exact fA (fA h1 hc) h2
      ·simp only[execOp,resolve,rX,NJ,Deferred.ofValue,Sem.run_bind,Sem.run_pure,Result.andThen_ok,invoke]
     ·cases h
    ·cases h
   ·unfold gP at h;(repeat' split at h)<;>first|cases h|(obtain ⟨_,_,e⟩:=oM1.1 h;cases e)
   ·rename_i x name rX;split at h
    ·rename_i ty v hx;split at h
     ·rename_i r hr;split at h
      ·rename_i m e hm hd;split at h
       ·rename_i g Xw BT;simp only[Option.some.injEq,Out.call.injEq] at h;obtain ⟨rfl,rfl⟩:=h;have ll:=bJ _ _ hx;simp only[aw] at ll;obtain ⟨y,hy,KA⟩:=ll;refine ⟨#[y]++c.args.map ρ,?_,?_⟩
        ·simp only[Array.toList_append,Array.toList_map];simp only[List.singleton_append,aG];exact ⟨y,_,rfl,KA,hc⟩
        ·simp only[execOp,resolve,rX,hy,Sem.run_bind,Sem.run_pure,Result.andThen_ok,invoke];have h0:(#[Value.iface ty y]++c.args.map ρ)[0]?=some (.iface ty y):=by rw[Array.getElem?_append_left (by simp)];rfl
         have hex:(#[Value.iface ty y]++c.args.map ρ).extract 1 (#[Value.iface ty y]++c.args.map ρ).size=c.args.map ρ:=by
          apply Array.ext';simp[List.take_of_length_le]
         rw[h0];simp only[hex,callMethod,Sem.run_bind,run_program,Result.andThen_ok];have hk:P.types.size+Made.depth=(P.types.size+Made.depth - 1)+1:=by
          have:0<Made.depth:=by unfold Made.depth;omega
          omega
         rw[hk,K4 hE (v:=v) hr hm Xw BT hd];rfl
       ·cases h
      ·cases h
     ·cases h
    ·cases h
 case convert src dst x=>
  split at h
  ·unfold nL at h;(repeat' split at h)<;>first|cases h|(obtain ⟨_,_,e⟩:=oM1.1 h;cases e)
  ·cases h
 all_goals
  (repeat' split at h)<;>first|cases h|(obtain ⟨_,_,e⟩:=oM1.1 h;cases e)
end
end Go.Proofs.YtmbdghclhpboaaaGreat.Ev
namespace Go.Proofs.YtmbdghclhpboaaaGreat.Ev
section
variable{F:dN}{P:Program}{E:Env}(hE:cL P E){γ:aT}{σ:AS}{w:World}{t:aE}
include hE
theorem E2{cb:Cb}(nB:sz P cb){ops:Array Oper}{o:Oper}{i n:Nat}{v:AV}{cJ:AS}{tag:Nat}{a:Act}(h:mf E cb ops.toList o t σ=some (v,cJ,tag))(hi:ops[i]?=some o)
  (hR:aU F γ σ w) (hT:cW γ n t a) {K:Act->World->Prop} {Q:Exit->Act->World->Prop} (hK:∀ay x w',aw ay v x->aU F ay cJ w'->Step γ σ ay cJ->K (a.put o.dst x) w'):wpOp P ops Q i K a w:=by
 unfold mf at h;unfold wpOp;simp only[hi];cases hw:dD ops.toList t o with
 | none=>rw[hw] at h;cases h
 | some b=>
   rw[hw] at h;have kI:=pc (a:=a) (γ:=γ) (n:=n) hw fun d u _ hu=>hT.get d u hu;have bJ:=hT.aL;cases b with
   | false=>
     simp only[Option.some.injEq,Prod.mk.injEq] at h;obtain ⟨rfl,rfl,rfl⟩:=h;rw[kI];simp only[Bool.false_eq_true,if_false];exact hK γ undef w (aS γ _) hR (.refl γ σ)
   | true=>
     rw[kI];simp only[if_true];refine .inl ?_;unfold Oper.wp;simp only[] at h;split at h
     ·cases h
     ·rename_i u g0;simp only[Option.some.injEq,Prod.mk.injEq] at h;obtain ⟨rfl,rfl,rfl⟩:=h;obtain ⟨x,h1,h2⟩:=pJ hE hR.toRel bJ o g0 (.inl rfl);rw[h1,Oper.upon_value];exact hK γ x w h2 hR (.refl γ σ)
     ·rename_i u g0;simp only[Option.some.injEq,Prod.mk.injEq] at h;obtain ⟨rfl,rfl,rfl⟩:=h;obtain ⟨x,h1,h2⟩:=pJ hE hR.toRel bJ o g0 (.inr rfl);rw[h1,Oper.upon_value];exact hK γ x w h2 hR (.refl γ σ)
     ·rename_i ob k g0;split at h
      ·rename_i an;have an:=gZ an;simp only[Option.some.injEq,Prod.mk.injEq] at h;obtain ⟨rfl,rfl,rfl⟩:=h;obtain ⟨hd,vi,x,top,h1,h2⟩:=Gi hE (σ:=σ) (w:=w) bJ o g0;have og:γ σ.next=none:=hR.j6 _ (Nat.le_refl _)
       have hm:=hR.more an ob;have dz:(σ.heap.put σ.next ob).get σ.next=some ob:=by rw[T.bN _ _ _ _ (Nat.le_of_lt an)];simp
       have hrel:=h2 (gh γ σ.next (some ⟨w.heap.size,0,top⟩)) σ.next { w with heap:=w.heap.push vi } (jH _ og) (bI _ _ _) (by simp)
       rw[h1,Oper.upon_value];exact hK _ x _ hrel.2 (hm.place (id:=σ.next) (by simp) og dz hd vi 0 top hrel.1) (Step.place _ og σ (Nat.le_refl _) (Step.more hR an _))
      ·cases h
     ·rename_i u rR g0;simp only[Option.some.injEq,Prod.mk.injEq] at h;obtain ⟨rfl,rfl,rfl⟩:=h;obtain ⟨ay,w',nx,h1,h2,h3,h4⟩:=LS hE hR bJ o g0;rw[h1];rcases h2 with ⟨x,rfl,hx⟩|⟨rfl,rfl⟩
      ·rw[Oper.upon_value];exact hK ay x w' hx h3 h4
      ·rw[Oper.upon_skip];exact hK ay undef w' (aS ay _) h3 h4
     ·rename_i f args g0;split at h
      ·rename_i P9;rw[Bool.and_eq_true] at P9;obtain ⟨ys,qp⟩:=Option.isSome_iff_exists.1 P9.2;split at h
       ·rename_i u rR hc;split at h
        ·rename_i y hy;simp only[Option.some.injEq,Prod.mk.injEq] at h;obtain ⟨rfl,rfl,rfl⟩:=h;obtain ⟨xs,gV,dB⟩:=Bg hE (w:=w) bJ o g0;have hxs':aG emp args xs.toList:=by
          rw[jJ args ys _ qp gV];exact iQ args ys qp
         obtain ⟨c1,c2⟩:=nB f args Vk _ _ hc (PG w emp) emp w xs (CH w) hxs';rw[dB,c1,Oper.upon_enter];refine c2 _ fun ay x w' hx hr _=>?_;rw[jI u y x hy hx];exact hK γ y w' (jF u y hy) (hR.grown (DW hr.frame)) (.refl γ σ)
        ·cases h
       ·cases h
      split at h
      ·rename_i u rR hc;simp only[Option.some.injEq,Prod.mk.injEq] at h;obtain ⟨rfl,rfl,rfl⟩:=h;obtain ⟨xs,gV,dB⟩:=Bg hE (w:=w) bJ o g0;obtain ⟨c1,c2⟩:=nB f args σ _ _ hc F γ w xs hR gV;rw[dB,c1,Oper.upon_enter];exact c2 _ fun ay x w' hx hr hs=>hK ay x w' hx hr hs
      ·cases h
theorem JB{cb:Cb}(nB:sz P cb){ops:Array Oper}{n:Nat}(hn:n<=aY){Q:Exit->Act->World->Prop}:∀(l:List Oper) (i:Nat) (t t':aE) (σ cJ:AS) (γ:aT) (w:World) (a:Act),
  JA E cb n ops.toList l t σ=some (t',cJ)->ops.toList.drop i=l->aU F γ σ w->cW γ n t a ->
  (∀ay a' w',aU F ay cJ w'->cW ay n t' a'->Step γ σ ay cJ->Q .normal a' w')->wpOps P ops Q ((List.range (ops.size - i)).map (·+i)) a w
 | [],i,t,t',σ,cJ,γ,w,a,h,hd,hR,hT,hQ=>by
   simp only[JA,Option.some.injEq,Prod.mk.injEq] at h;obtain ⟨rfl,rfl⟩:=h;have:ops.size - i=0:=by
    have:=congrArg List.length hd;simpa using this
   rw[this];exact hQ γ a w hR hT (.refl γ σ)
 | o::rest,i,t,t',σ,cJ,γ,w,a,h,hd,hR,hT,hQ=>by
   have an:i<ops.size:=by
    have:=congrArg List.length hd;simp at this;omega
   have hi:ops[i]?=some o:=by
    have h1:ops.toList[i]?=some o:=by
     have:(ops.toList.drop i)[0]?=some o:=by rw[hd];rfl
     rw[List.getElem?_drop] at this;simpa using this
    simpa using h1
   have ra:ops.toList.drop (i+1)=rest:=by
    have:=congrArg List.tail hd;simpa [List.tail_drop] using this
   rw[show ops.size - i=(ops.size - (i+1))+1 by omega,List.range_succ_eq_map,List.map_cons,List.map_map,wpOps_cons,Nat.zero_add];have BT:((fun x=>x+i)∘Nat.succ)=(fun x=>x+(i+1)):=by funext x;simp;omega
   rw[BT];simp only[JA] at h;split at h
   ·rename_i v gL tag hs;split at h
    ·rename_i t1 hp;refine E2 hE nB hs hi hR hT fun fD x w1 hx fJ fM=>?_;exact JB nB hn rest (i+1) t1 t' gL cJ fD w1 _ h ra fJ (oq (hT.mono fM.ext) hp hn hx) fun ay a' w' h1 h2 h3=>hQ ay a' w' h1 h2 (fM.trans h3)
    ·cases h
   ·cases h
end
end Go.Proofs.YtmbdghclhpboaaaGreat.Ev
namespace Go.Proofs.YtmbdghclhpboaaaGreat.Ev
theorem kQ(m i j:Nat):has (Nat.lor m (Nat.shiftLeft 1 i)) j=(has m j || decide (j=i)):=by
 unfold has;rw[show Nat.lor m (Nat.shiftLeft 1 i)=m ||| (1 <<< i) from rfl,Nat.testBit_or,Nat.testBit_shiftLeft];congr 1;by_cases h:j=i
 ·subst h;simp
 ·by_cases h':i<=j
  ·cases hk:j - i with
   | zero=>omega
   | succ k=>simp[h,h',Nat.testBit_succ]
  ·simp[h,h']
theorem j9(j:Nat):has 0 j=false:=by simp[has]
theorem CE{done:Nat}{r:Row}:ready done r=true↔∀j,has r.pm j=true->has done j=true:=by
 unfold ready has;rw[show Nat.land r.pm done=r.pm &&& done from rfl];constructor
 ·intro h j hj;have h:=nQ1 h;have:=congrArg (Nat.testBit · j) h;simp only[Nat.testBit_and] at this;rw[hj] at this;simpa using this
 ·intro h;have:r.pm &&& done=r.pm:=Nat.eq_of_testBit_eq fun j=>by
   rw[Nat.testBit_and];cases hj:Nat.testBit r.pm j with
   | false=>rfl
   | true=>simp[h j hj]
  rw[this];exact Nat.beq_refl _
theorem kT(j:Nat):∀l:List Edge,has (kh l) j=true↔∃e∈l,Region.binds .any e=true/\e.on=j
 | []=>by simp[kh,j9]
 | e::l=>by
   simp only[kh];cases hb:Region.binds .any e with
   | false=>
     simp only[];rw[kT j l];constructor
     ·rintro ⟨x,h1,h2⟩;exact ⟨x,List.mem_cons_of_mem _ h1,h2⟩
     ·rintro ⟨x,h1,h2,h3⟩;rcases List.mem_cons.1 h1 with rfl|h1
      ·rw[hb] at h2;cases h2
      ·exact ⟨x,h1,h2,h3⟩
   | true=>
     simp only[];rw[show Nat.lor (Nat.shiftLeft 1 e.on) (kh l)=Nat.lor (kh l) (Nat.shiftLeft 1 e.on) from Nat.or_comm _ _,kQ,Bool.or_eq_true,kT j l,decide_eq_true_iff];constructor
     ·rintro (⟨x,h1,h2⟩|rfl)
      ·exact ⟨x,List.mem_cons_of_mem _ h1,h2⟩
      ·exact ⟨e,by simp,hb,rfl⟩
     ·rintro ⟨x,h1,h2,h3⟩;rcases List.mem_cons.1 h1 with rfl|h1
      ·exact .inr h3.symm
      ·exact .inl ⟨x,h1,h2,h3⟩
theorem Tb{m i j:Nat}(h:Nat.blt m (Nat.shiftLeft 1 i)=true)(hj:has m j=true):j<i:=by
 have h1:m<1 <<< i:=gZ h;rw[Nat.one_shiftLeft] at h1;have h2:=Nat.ge_two_pow_of_testBit hj;exact (Nat.pow_lt_pow_iff_right (a:=2) (by omega)).1 (Nat.lt_of_le_of_lt h2 h1)
theorem uw:∀{l:List Nat} {n:Nat},nZ l n=true↔n∈l
 | [],n=>by simp[nZ]
 | x::l,n=>by
   simp only[nZ];cases hb:Nat.beq x n with
   | true=>simp[nQ1 hb]
   | false=>simp[uw,Ne.symm (Nat.ne_of_beq_eq_false hb)]
theorem TK{l:List Nat}{n:Nat}(h:nZ l n=false):n∉l:=fun hm=>by rw[uw.2 hm] at h;cases h
def yJ(ops:Array Oper)(i:Nat)(o:Oper):Row:=⟨i,o,kh o.after.toList,early o.op,o.looksAt ops⟩
theorem pZ{ops:Array Oper}:∀{l:List Oper} {i:Nat} {r:Row},r∈eE ops i l↔∃k o,l[k]?=some o/\r=yJ ops (i+k) o
 | [],i,r=>by simp[eE]
 | o::l,i,r=>by
   simp only[eE,List.mem_cons];rw[pZ];constructor
   ·rintro (rfl|⟨k,p,h1,h2⟩)
    ·exact ⟨0,o,rfl,rfl⟩
    ·exact ⟨k+1,p,by simpa using h1,by rw[h2,show i+1+k=i+(k+1) by omega]⟩
   ·rintro ⟨k,p,h1,h2⟩;cases k with
    | zero=>simp only[List.getElem?_cons_zero,Option.some.injEq] at h1;subst h1;exact .inl h2
    | succ k=>exact .inr ⟨k,p,by simpa using h1,by rw[h2,show i+1+k=i+(k+1) by omega]⟩
structure LR(a b:Row):Prop where
 looks:∀d,a.o.dst=some d->d∈b.looks->has b.pm a.i=true\/(has a.pm b.i=true/\a.early=false)
 dst:∀d,a.o.dst=some d->b.o.dst=some d->a.early=false/\b.early=false
theorem N5{a b:Row}(h:xx a b=true):LR a b:=by
 unfold xx at h;cases hd:a.o.dst with
 | none=>exact ⟨fun d e _=>by simp[hd] at e,fun d e _=>by simp[hd] at e⟩
 | some d=>
   rw[hd] at h;simp only[Bool.and_eq_true] at h;obtain ⟨h1,h2⟩:=h;refine ⟨fun d' e hm=>?_,fun d' e e'=>?_⟩<;>(have e:=Option.some.inj (hd.symm.trans e);subst e)
   ·rw[uw.2 hm] at h1;simpa using h1
   ·rw[e'] at h2;simp only[Nat.beq_refl,Bool.and_eq_true,Bool.not_eq_true'] at h2;exact ⟨h2.1.2,h2.2⟩
structure n7(ops:Array Oper)(rows:List Row):Prop where
 row:∀r∈rows,ops[r.i]?=some r.o/\r=yJ ops r.i r.o
 all:∀i o,ops[i]?=some o->yJ ops i o∈rows
 lt:∀r∈rows,∀j,has r.pm j=true->j<r.i
 self:∀r∈rows,r.early=true->∀d,r.o.dst=some d->d∉r.looks
 pair:∀r∈rows,∀q∈rows,r.i≠q.i->LR r q
theorem n7.eq{ops:Array Oper}{rows:List Row}(h:n7 ops rows){r q:Row}(hr:r∈rows)(hq:q∈rows)(e:r.i=q.i):r=q:=by
 obtain ⟨h1,h2⟩:=h.row r hr;obtain ⟨h3,h4⟩:=h.row q hq;rw[e,h3] at h1;rw[h2,h4,e,Option.some.inj h1]
theorem Ei:∀{l:List Row},indep l=true->(∀r∈l,Nat.blt r.pm (Nat.shiftLeft 1 r.i)=true/\GB r=true)/\∀r∈l,∀q∈l,r.i≠q.i->xx r q=true
 | [],_=>⟨by simp,by simp⟩
 | x::l,h=>by
   simp only[indep,Bool.and_eq_true,List.all_eq_true] at h;obtain ⟨⟨⟨h1,h2⟩,h3⟩,h4⟩:=h;obtain ⟨i1,i2⟩:=Ei h4;refine ⟨fun r hr=>?_,fun r hr q hq aP=>?_⟩
   ·rcases List.mem_cons.1 hr with rfl|hr
    ·exact ⟨h1,h2⟩
    ·exact i1 r hr
   ·rcases List.mem_cons.1 hr with er|hr<;>rcases List.mem_cons.1 hq with eq|hq
    ·exact absurd (by rw[er,eq]) aP
    ·rw[er];exact (h3 q hq).1
    ·rw[eq];exact (h3 r hr).2
    ·exact i2 r hr q hq aP
theorem Jq{ops:Array Oper}(h:indep (eE ops 0 ops.toList)=true):n7 ops (eE ops 0 ops.toList):=by
 obtain ⟨h1,h2⟩:=Ei h;refine ⟨fun r hr=>?_,fun i o ho=>?_,fun r hr j hj=>Tb (h1 r hr).1 hj,fun r hr he d hd hm=>?_,fun r hr q hq aP=>N5 (h2 r hr q hq aP)⟩
 ·obtain ⟨k,o,hk,rfl⟩:=pZ.1 hr;refine ⟨?_,rfl⟩;simp only[yJ,Nat.zero_add];simpa using hk
 ·exact pZ.2 ⟨i,o,by simpa using ho,by rw[Nat.zero_add]⟩
 ·have:=(h1 r hr).2;unfold GB at this;rw[he,hd] at this;simp only[Bool.not_eq_true'] at this;exact TK this hm
theorem Bw{E:Env}{t:aE}{σ:AS}{op:Op}{v:AV}(cJ:AS)(h:bK E t σ op=some (.pure v)):bK E t cJ op=some (.pure v):=by
 cases op<;>simp only[bK] at h ⊢<;>first|exact h|skip
 case convert src dst x=>
  split at h
  ·rename_i y hy;unfold nL at h ⊢;(repeat' split at h)<;>first|cases h|skip
   all_goals first|(simp_all;done)|skip
   all_goals (obtain ⟨_,_,e⟩:=oM1.1 h;cases e)
  ·cases h
 case call c=>
  split at h
  ·cases h
  ·rename_i as ha;split at h
   ·exact h
   ·rename_i b hb;unfold gP at h ⊢;(repeat' split at h)<;>first|cases h|(simp_all;done)|(obtain ⟨_,_,e⟩:=oM1.1 h;cases e)|skip
   ·exact h
 all_goals
  (repeat' split at h)<;>first|cases h|(obtain ⟨_,_,e⟩:=oM1.1 h;cases e)
theorem yk{E:Env}{t:aE}{σ:AS}{op:Op}{ob:ai}{k:rS}(cJ:AS)(h:bK E t σ op=some (.new ob k)):bK E t cJ op=some (.new ob k):=by
 cases op<;>simp only[bK] at h ⊢<;>first|exact h|skip
 case convert src dst x=>
  split at h
  ·rename_i y hy;unfold nL at h;(repeat' split at h)<;>first|cases h|(obtain ⟨_,_,e⟩:=oM1.1 h;cases e)
  ·cases h
 case call c=>
  split at h
  ·cases h
  ·rename_i as ha;split at h
   ·unfold pC at h;(repeat' split at h)<;>cases h
   ·rename_i b hb;unfold gP at h;(repeat' split at h)<;>first|cases h|(obtain ⟨_,_,e⟩:=oM1.1 h;cases e)
   ·(repeat' split at h)<;>cases h
 all_goals
  (repeat' split at h)<;>first|cases h|(obtain ⟨_,_,e⟩:=oM1.1 h;cases e)
theorem sL{E:Env}{t:aE}{σ:AS}{op:Op}{out:Out}(he:early op=true)(h:bK E t σ op=some out) :
  (∃v,out=.pure v)\/(∃v,out=.read v)\/∃ob k,out=.new ob k:=by
 cases op<;>simp only[early,Bool.false_eq_true] at he<;>simp only[bK] at h
 case convert src dst x=>
  split at h
  ·rename_i y hy;unfold nL at h;(repeat' split at h)<;>first
    | (simp at h;done)
    | (simp only[Option.some.injEq] at h;subst h;first|exact .inl ⟨_,rfl⟩|exact .inr (.inl ⟨_,rfl⟩)|exact .inr (.inr ⟨_,_,rfl⟩))
    | (obtain ⟨_,_,rfl⟩:=oM1.1 h;exact .inr (.inl ⟨_,rfl⟩))
  ·cases h
 case call c=>
  split at h
  ·cases h
  ·rename_i as ha;split at he;all_goals first|cases he|skip
   all_goals (rename_i hb;simp only[hb] at h;unfold gP at h;(repeat' split at h)<;>first|cases h|(obtain ⟨_,_,rfl⟩:=oM1.1 h;first|exact .inl ⟨_,rfl⟩|exact .inr (.inl ⟨_,rfl⟩))|(simp at *;done))
 all_goals
  (repeat' split at h)<;>first
   | (simp at h;done)
   | (simp only[Option.some.injEq] at h;subst h;first|exact .inl ⟨_,rfl⟩|exact .inr (.inl ⟨_,rfl⟩)|exact .inr (.inr ⟨_,_,rfl⟩))
   | (obtain ⟨_,_,rfl⟩:=oM1.1 h;first|exact .inl ⟨_,rfl⟩|exact .inr (.inl ⟨_,rfl⟩)|exact .inr (.inr ⟨_,_,rfl⟩))
   | (simp only[Option.some.injEq] at h;subst h;first|exact .inl ⟨_,rfl⟩|exact .inr (.inl ⟨_,rfl⟩)|exact .inr (.inr ⟨_,_,rfl⟩))
