/- Part of the proof: EvR. Conditions: as each states. -/
import Derived.Test.YtmbdghclhpboaaaGreatPw8
set_option linter.all false
namespace Go.Proofs.YtmbdghclhpboaaaGreat.Ev
section
variable{F:di}{P:Program}{E:Env}(hE:ch P E){γ:aK}{σ:AS}{w:World}{t:ax}{ρ:Operand->Value}
include hE
omit hE in
theorem OD(hR:aL F γ σ w){it v:AV}{cd:AS}(h:Jv σ it=some (v,cd)){y:Value}(hx:an γ it y){ty:TypeId} :
  ∃w' u,(Instr.next y false ty).run P w=.ok u w'/\an γ v u/\aL F γ cd w'/\Step γ σ γ cd:=by
 unfold Jv at h;split at h
 ·rename_i r0;split at h
  ·rename_i m since seen last hg;split at h
   ·rename_i es clock hm;split at h
    ·cases h
    ·rename_i Uu;simp only[an] at hx;obtain ⟨a,rfl,ha⟩:=hx;obtain ⟨p,hp,vY,rr,hb,AN⟩:=hR.find hg (by simp) ha.ne;obtain rfl:=ha.at hp;obtain ⟨q,hq,es',NP,he⟩:=hR.find hm (by simp) AN.ne;obtain rfl:=AN.at hq;have oF:(getObj p.block).run P w=.ok (.mapIter (some q.block) since seen.toArray last) w:=by simp[getObj,Sem.run,hb]
     have Cp:(getObj q.block).run P w=.ok (.map es' clock) w:=by simp[getObj,Sem.run,NP]
     have hlen:=nP he;have QG:es'.isEmpty=es.isEmpty:=by
      cases es with
      | nil=>simp at hlen;simp[hlen]
      | cons e es=>cases qh:es'.isEmpty with
        | true=>simp at qh;subst qh;simp at hlen
        | false=>rfl
     have LI:es'.all (·.born>=last)=es.all (fun e=>Nat.ble last e.2.2):=by
      have:=yn (fun b=>decide (b>=last)) he;rw[<-Array.all_toList,this];congr 1;funext e;rw[Bool.eq_iff_iff,decide_eq_true_iff];exact ⟨fun h=>Nat.ble_eq_true_of_le h,fun h=>Nat.le_of_ble_eq_true h⟩
     have hcond':(!seen.toArray.isEmpty&&!es'.isEmpty&&es'.all (·.born>=last))=false:=by
      rw[QG,LI];simpa using Uu
     have N1:=iX (fun b=>!seen.contains b) he;have hold:=iX (fun b=>Nat.blt b since) N1;have kM:=iX (fun b=>Nat.ble since b) N1;have e1:(es'.filter fun e=>!seen.toArray.contains e.born).toList=es'.toList.filter fun e=>!seen.contains e.born:=by simp
     have e2:((es'.filter fun e=>!seen.toArray.contains e.born).filter (·.born<since)).toList=(es'.toList.filter fun e=>!seen.contains e.born).filter fun e=>Nat.blt e.born since:=by
      rw[Array.toList_filter,e1];congr 1;funext e;rw[Bool.eq_iff_iff,decide_eq_true_iff];exact ⟨fun h=>Nat.ble_eq_true_of_le h,fun h=>Nat.le_of_ble_eq_true h⟩
     have e3:((es'.filter fun e=>!seen.toArray.contains e.born).filter (·.born>=since)).toList=(es'.toList.filter fun e=>!seen.contains e.born).filter fun e=>Nat.ble since e.born:=by
      rw[Array.toList_filter,e1];congr 1;funext e;rw[Bool.eq_iff_iff,decide_eq_true_iff];exact ⟨fun h=>Nat.ble_eq_true_of_le h,fun h=>Nat.le_of_ble_eq_true h⟩
     simp only[] at h;split at h
     ·rename_i UD UE;simp only[Option.some.injEq,Prod.mk.injEq] at h;obtain ⟨rfl,rfl⟩:=h;rw[UD] at hold;rw[UE] at kM;simp only[aX] at hold kM;rw[hold] at e2;rw[kM] at e3;have e2':(es'.filter fun e=>!seen.toArray.contains e.born).filter (·.born<since)=#[]:=by simpa using e2
      have e3':(es'.filter fun e=>!seen.toArray.contains e.born).filter (·.born>=since)=#[]:=by simpa using e3
      refine ⟨w,.tuple #[.bool false],?_,?_,hR,.refl γ σ⟩
      ·unfold Instr.next
       rw[vY];simp only[Sem.run_bind,oF,Result.andThen_ok,Cp,hcond',Bool.false_eq_true,if_false,e2',e3'];have:((if (#[]:Array MapEntry).isEmpty=true then #[none] else #[])++Array.map some ((#[]:Array MapEntry)++#[]):Array (Option MapEntry))=#[none]:=by simp
       rw[this];simp only[run_choose];have hq:(Question.mapNext (#[(none:Option MapEntry)]:Array (Option MapEntry)).size).forced=true:=rfl;simp only[hq,if_true,Result.andThen_ok];rfl
      ·simp only[an];exact ⟨_,rfl,by simp only[az];exact ⟨.bool false,[],rfl,aM γ _,rfl⟩⟩
     ·rename_i k u born UD UE;simp only[Option.some.injEq,Prod.mk.injEq] at h;obtain ⟨rfl,rfl⟩:=h;rw[UD] at hold;rw[UE] at kM;simp only[aX] at hold kM;obtain ⟨k',u',rest,Jp,hk,hu,rfl⟩:=hold;rw[Jp] at e2;rw[kM] at e3;have e2':(es'.filter fun e=>!seen.toArray.contains e.born).filter (·.born<since)=#[⟨k',u',born⟩]:=Array.toList_inj.1 e2;have e3':(es'.filter fun e=>!seen.toArray.contains e.born).filter (·.born>=since)=#[]:=by simpa using e3
      have fk:(Go.setObj p.block (.mapIter (some q.block) since (seen.toArray.push born) clock)).run P w=.ok () { w with heap:=w.heap.setIfInBounds p.block (.mapIter (some q.block) since (seen.toArray.push born) clock) }:=by
       simp[Go.setObj,Sem.run,hb]
      have ah:=(Array.getElem?_eq_some_iff.1 hb).1;refine ⟨_,.tuple #[.bool true,k',u'],?_,?_,aL.set (w':={ w with heap:=w.heap.setIfInBounds p.block (.mapIter (some q.block) since (seen.toArray.push born) clock) }) hR hp (by simp) ?_ ?_,Step.set hR _ hp⟩
      ·unfold Instr.next
       rw[vY];simp only[Sem.run_bind,oF,Result.andThen_ok,Cp,hcond',Bool.false_eq_true,if_false,e2',e3'];have:((if (#[⟨k',u',born⟩]:Array MapEntry).isEmpty=true then #[none] else #[])++Array.map some (#[⟨k',u',born⟩]++#[]):Array (Option MapEntry))=#[some ⟨k',u',born⟩]:=by simp
       rw[this];simp only[run_choose];have hq:(Question.mapNext (#[some (⟨k',u',born⟩:MapEntry)]:Array (Option MapEntry)).size).forced=true:=rfl;simp only[hq,if_true,Result.andThen_ok];have:(#[some (⟨k',u',born⟩:MapEntry)]:Array (Option MapEntry))[0]?=some (some ⟨k',u',born⟩):=rfl;rw[this];simp only[Sem.run_bind,fk,Result.andThen_ok,Sem.run_pure]
      ·simp only[an];exact ⟨_,rfl,by simp only[az];exact ⟨.bool true,[k',u'],rfl,aM γ _,k',[u'],rfl,hk,u',[],rfl,hu,rfl⟩⟩
      ·refine ⟨vY,q.block,?_,by unfold lQ;rw[hq]⟩;simp[ah]
      ·exact ya w p.block _
     ·cases h
   ·cases h
  ·cases h
 ·cases h
theorem Kn(hR:aL F γ σ w)(bD:o2 γ t ρ)(o:Oper){v:AV}{cd:AS}(h:bz E t σ o.op=some (.act v cd)) :
  ∃aq w' n,(execOp ρ o).run P w=.ok n w'/\((∃x,n=.value x/\an aq v x)\/(n=.skip/\v=aP))/\aL F aq cd w'/\Step γ σ aq cd:=by
 obtain ⟨dst,op,type,pos,after,guard⟩:=o;simp only[] at h;cases op<;>simp only[bz] at h
 case assign x=>
  obtain ⟨u,hu,e⟩:=Option.map_eq_some_iff.1 h;cases e
  exact ⟨γ,w,.value (ρ x),rfl,.inl ⟨_,rfl,bD _ _ hu⟩,hR,.refl γ σ⟩
 case store ty a x=>
  split at h
  ·rename_i av xv ha hx;obtain ⟨u,hu,e⟩:=Option.map_eq_some_iff.1 h;cases e
   obtain ⟨w',h1,h2,h3⟩:=MK hE hR hu (bD _ _ ha) (bD _ _ hx);refine ⟨γ,w',.skip,?_,.inr ⟨rfl,rfl⟩,h2,h3⟩;simp only[execOp,Sem.run_bind,h1,Result.andThen_ok,Sem.run_pure]
  ·cases h
 case mapUpdate ty m k x=>
  split at h
  ·rename_i mv kv xv hm hk hx;obtain ⟨u,hu,e⟩:=Option.map_eq_some_iff.1 h;cases e
   obtain ⟨w',h1,h2,h3⟩:=B7 hE hR hu (bD _ _ hm) (bD _ _ hk) (bD _ _ hx);refine ⟨γ,w',.skip,?_,.inr ⟨rfl,rfl⟩,h2,h3⟩;simp only[execOp,Sem.run_bind,h1,Result.andThen_ok,Sem.run_pure]
  ·cases h
 case insert ty m k x=>
  split at h
  ·rename_i mv kv xv hm hk hx;obtain ⟨u,hu,e⟩:=Option.map_eq_some_iff.1 h;cases e
   obtain ⟨w',h1,h2,h3⟩:=B7 hE hR hu (bD _ _ hm) (bD _ _ hk) (bD _ _ hx);refine ⟨γ,w',.skip,?_,.inr ⟨rfl,rfl⟩,h2,h3⟩;simp only[execOp,Sem.run_bind,h1,Result.andThen_ok,Sem.run_pure]
  ·cases h
 case range ty x=>
  split at h
  ·rename_i r o hr hx;split at h
   ·rename_i kt et es clock hd hg;split at h
    ·rename_i ah;have ah:=gA ah;simp only[Option.some.injEq,Out.act.injEq] at h;obtain ⟨rfl,rfl⟩:=h;have hc:=bD _ _ hx;simp only[an] at hc;obtain ⟨b,hb,QR⟩:=hc;obtain ⟨p,hp,es',NP,he⟩:=hR.find hg (by simp) QR.ne;obtain rfl:=QR.at hp;have ni:γ σ.next=none:=hR.jv _ (Nat.le_refl _)
     have hm:=hR.more ah (.iter o clock [] clock);have dd:(σ.heap.put σ.next (af.iter o clock [] clock)).get σ.next=some (.iter o clock [] clock):=by rw[T.bH _ _ _ _ (Nat.le_of_lt ah)];simp
     have hx:=iY (some ⟨w.heap.size,0,0⟩) ni;refine ⟨fJ γ σ.next (some ⟨w.heap.size,0,0⟩),{ w with heap:=w.heap.push (.mapIter (some p.block) clock #[] clock) },.value (.pointer (some ⟨w.heap.size,0,none⟩)),?_,.inl ⟨_,rfl,?_⟩,hm.place (id:=σ.next) (base:=0) (top:=0) (by simp) ni dd (by simp) _ ?_,Step.place _ ni σ (Nat.le_refl _) (Step.more hR ah _)⟩
     ·have oF:(getObj p.block).run P w=.ok (.map es' clock) w:=by simp[getObj,Sem.run,NP]
      simp only[execOp];refine dh ?_;rw[hb];unfold Instr.range;simp only[Sem.run_bind,ba hE hr w,hd,Result.andThen_ok,oF,Sem.run_pure,run_newObj]
     ·simp only[an];exact ⟨_,rfl,by unfold gz;rw[bu]⟩
     ·refine ⟨rfl,p.block,by simp,QR.mono hx⟩
    ·cases h
   ·cases h
  ·cases h
 case next it isString=>
  split at h
  ·rename_i iv hi;obtain ⟨⟨u,qR⟩,hu,e⟩:=Option.map_eq_some_iff.1 h;cases e
   obtain ⟨w',z,h1,h2,h3,h4⟩:=OD (P:=P) (ty:=type) hR hu (bD _ _ hi);exact ⟨γ,w',.value z,by simp only[execOp];exact dh h1,.inl ⟨_,rfl,h2⟩,h3,h4⟩
  ·cases h
 case call c=>
  split at h
  ·cases h
  ·rename_i args gR;have hc:=eY bD gR;split at h
   ·split at h
    ·unfold oP at h;split at h<;>cases h
    ·cases h
   ·rename_i b qX;simp only[execOp,resolve,qX,invoke,builtin];have get:∀(i:Nat) (v:AV),args[i]?=some v->∃x,(c.args.map ρ)[i]?=some x/\an γ v x:=by
     intro i v hv;obtain ⟨x,hx,kA⟩:=dq hc i v hv;exact ⟨x,by rw[<-Array.getElem?_toList,Array.toList_map];exact hx,kA⟩
    unfold gp at h;split at h
    ·obtain ⟨u,hu,e⟩:=Option.map_eq_some_iff.1 h;cases e
    ·rename_i ty rest s x mR;split at h
     ·rename_i xt XB;split at h
      ·rename_i xr xB;split at h
       ·cases h
       ·rename_i Cw;obtain ⟨⟨u,qR⟩,hu,e⟩:=Option.map_eq_some_iff.1 h;cases e
        obtain ⟨s',pb,nY⟩:=get 0 s rfl;obtain ⟨x',EU,Vc⟩:=get 1 x rfl;obtain ⟨aq,w',z,h1,h2,h3,h4⟩:=IP hE hR (tt:=type) (ts:=c.argTypes) (ys:=c.args.map ρ) hu nY Vc (by rw[<-Array.getElem?_toList,mR];rfl) (by rw[<-Array.getElem?_toList,XB];rfl) pb EU xB (fun k=>Cw k);refine ⟨aq,w',.value z,?_,.inl ⟨_,rfl,h2⟩,h3,h4⟩;simp only[Sem.run_bind,Sem.run_pure,Result.andThen_ok,builtin,h1]
      ·cases h
     ·cases h
    ·rename_i ty rest d x mR;obtain ⟨⟨u,qR⟩,hu,e⟩:=Option.map_eq_some_iff.1 h;cases e
     obtain ⟨d',o6,Co⟩:=get 0 d rfl;obtain ⟨x',EU,Vc⟩:=get 1 x rfl;obtain ⟨w',z,h1,h2,h3,h4⟩:=Nr hE hR (tt:=type) (ts:=c.argTypes) (ys:=c.args.map ρ) hu Co Vc (by rw[<-Array.getElem?_toList,mR];rfl) o6 EU;refine ⟨γ,w',.value z,?_,.inl ⟨_,rfl,h2⟩,h3,h4⟩;simp only[Sem.run_bind,Sem.run_pure,Result.andThen_ok,builtin,h1]
    ·rename_i ty rest m k mR;obtain ⟨qR,hu,e⟩:=Option.map_eq_some_iff.1 h;cases e
     obtain ⟨m',N3,Cq⟩:=get 0 m rfl;obtain ⟨k',eZ,kV⟩:=get 1 k rfl;obtain ⟨w',h1,h3,h4⟩:=I1 hE hR (tt:=type) (ts:=c.argTypes) (ys:=c.args.map ρ) hu Cq kV (by rw[<-Array.getElem?_toList,mR];rfl) N3 eZ;refine ⟨γ,w',.value (.tuple #[]),?_,.inl ⟨_,rfl,aM γ _⟩,h3,h4⟩;simp only[Sem.run_bind,Sem.run_pure,Result.andThen_ok,builtin,h1]
    ·obtain ⟨u,hu,e⟩:=Option.map_eq_some_iff.1 h;cases e
    ·obtain ⟨u,hu,e⟩:=Option.map_eq_some_iff.1 h;cases e
    ·cases h
   ·(repeat' split at h)<;>cases h
 case convert src dst x=>
  split at h
  ·unfold mN at h;(repeat' split at h)<;>first|cases h|(obtain ⟨_,_,e⟩:=Option.map_eq_some_iff.1 h;cases e)
  ·cases h
 all_goals
  (repeat' split at h)<;>first|cases h|(obtain ⟨_,_,e⟩:=Option.map_eq_some_iff.1 h;cases e)
end
end Go.Proofs.YtmbdghclhpboaaaGreat.Ev
namespace Go.Proofs.YtmbdghclhpboaaaGreat.Ev
def T.mask{α:Type}:(Nat->Bool)->T α->T α
 | _,.e=>.e
 | p,.n v l r=>.n (if p 0 then none else v) (T.mask (fun i=>p (2 * i+1)) l) (T.mask (fun i=>p (2 * i+2)) r)
theorem T.eo{α:Type}:∀(p:Nat->Bool) (t:T α) (i:Nat),(T.mask p t).get i=if p i then none else t.get i
 | p,.e,i=>by simp[T.mask,T.get]
 | p,.n v l r,i=>by
   cases i with
   | zero=>simp[T.mask,T.get]
   | succ i=>
     simp only[T.mask,T.get];cases hb:Nat.beq (i % 2) 0 with
     | true=>
       have:=Ed hb;simp only[];rw[T.eo];rw[show 2 * (i / 2)+1=i+1 by omega]
     | false=>
       have:=Ec hb;simp only[];rw[T.eo];rw[show 2 * (i / 2)+2=i+1 by omega]
theorem lb{t t':ax}:∀{l:List Operand},(∀x∈l,aE t x=aE t' x)->jN t l=jN t' l
 | [],_=>rfl
 | x::l,h=>by
   unfold jN;simp only[List.map_cons,h x (by simp)];have:l.map (aE t)=l.map (aE t'):=List.map_congr_left fun y hy=>h y (by simp[hy]);rw[this]
theorem qt{t t':ax}{x:Option Operand}(h:∀y∈x.toArray,aE t y=aE t' y):qq t x=qq t' x:=by
 cases x with
 | none=>rfl
 | some y=>simp only[qq,h y (by simp)]
theorem Gr{E:Env}{t t':ax}{σ:AS}(op:Op)(h:∀x∈op.operands,aE t x=aE t' x):bz E t σ op=bz E t' σ op:=by
 cases op<;>simp only[Op.operands] at h<;>simp only[bz]
 case build ty parts=>
  rw[lb (t':=t') fun x hx=>h x (by simpa using hx)]
 case buildSlice ty n parts=>
  rw[lb (t':=t') fun x hx=>h x (by simpa using hx)]
 case makeFunc fn first captured=>
  rw[lb (l:=first.toList) (t':=t') fun x hx=>h x (by simp at hx;simp[hx]),lb (l:=captured.toList) (t':=t') fun x hx=>h x (by simp at hx;simp[hx])]
 case slice ty x lo hi mx=>
  rw[h x (by simp),qt (x:=lo) (t':=t') fun y hy=>h y (by simp only[Array.mem_append];exact .inl (.inl (.inr hy))),qt (x:=hi) (t':=t') fun y hy=>h y (by simp only[Array.mem_append];exact .inl (.inr hy)),
   qt (x:=mx) (t':=t') fun y hy=>h y (by simp only[Array.mem_append];exact .inr hy)]
 case call c=>
  have ha:jN t c.args.toList=jN t' c.args.toList:=lb fun x hx=>h x (by simp[Call.operands] ; right;simpa using hx);rw[ha];cases hc:c.callee with
  | value f=>simp only[h f (by simp[Call.operands,hc])]
  | invoke r m=>simp only[h r (by simp[Call.operands,hc])]
  | builtin b=>rfl
 all_goals
  first
   | rfl
   | (rename_i x;simp only[h x (by simp)];done)
   | (simp at h;simp only[h];done)
theorem oC{γ:aK}{n:Nat}{t:ax}{a:Act}{ops:Array Oper}{o:Oper}{b:Bool}(h:cY ops.toList t o=some b)(hT:∀d v,(o.guard.bind fun g=>(ops[g.1]?).bind (·.dst))=some d->t.get d=some v->∃x,a.tmps[d]?=some x/\an γ v x) :
  Region.wanted o (yielded ops a.tmps)=b:=by
 unfold cY at h;unfold Region.wanted;cases hg:o.guard with
 | none=>rw[hg] at h;simp only[Option.some.injEq] at h;exact h
 | some g=>
   obtain ⟨j,want⟩:=g;rw[hg] at h;simp only[] at h ⊢;split at h
   ·rename_i p hp;split at h
    ·rename_i d hd;have bN:ops[j]?=some p:=by simpa using hp
     have hb:(o.guard.bind fun g=>(ops[g.1]?).bind (·.dst))=some d:=by rw[hg];simp[bN,hd]
     split at h
     ·rename_i c hc;simp only[Option.some.injEq] at h;obtain ⟨x,hx,kA⟩:=hT d _ hb hc;rw[al] at kA;subst kA;unfold yielded;simp only[bN,Option.bind_some,hd,hx];rw[<-h];cases c<;>cases want<;>rfl
     ·rename_i c hc;simp only[Option.some.injEq] at h;obtain ⟨x,hx,kA⟩:=hT d _ hb hc;rw[al] at kA;subst kA;unfold yielded;simp only[bN,Option.bind_some,hd,hx];rw[<-h];rfl
     ·cases h
    ·cases h
   ·cases h
theorem B8{ops:Array Oper}{t t':ax}{o:Oper}(h:∀d,(o.guard.bind fun g=>(ops[g.1]?).bind (·.dst))=some d->t.get d=t'.get d):cY ops.toList t o=cY ops.toList t' o:=by
 unfold cY;cases hg:o.guard with
 | none=>rfl
 | some g=>
   obtain ⟨j,want⟩:=g;simp only[];cases hp:ops.toList[j]? with
   | none=>rfl
   | some p=>
     simp only[];cases hd:p.dst with
     | none=>rfl
     | some d=>
       have bN:ops[j]?=some p:=by simpa using hp
       simp only[];rw[h d (by rw[hg];simp[bN,hd])]
theorem nu{γ:aK}{n:Nat}{t t':ax}{a:Act}{d:Option Nat}{v:AV}{x:Value}(hT:cE γ n t a)(h:oj n t d v=some t')(hn:n<=aU)(hx:an γ v x):cE γ n t' (a.put d x):=by
 unfold oj at h;cases d with
 | none=>simp only[Option.some.injEq] at h;subst h;exact hT
 | some d=>
   simp only[] at h;split at h
   ·rename_i ah;have ah:=gA ah;simp only[Option.some.injEq] at h;subst h;refine ⟨by simpa [Act.put] using hT.size,hT.defers,fun i u hu=>?_⟩;rw[T.bH _ _ _ _ (by omega)] at hu;have iW:=hT.size;by_cases e:i=d
    ·subst e;rw[if_pos rfl] at hu;simp only[Option.some.injEq] at hu;subst hu;exact ⟨x,by simp only[Act.put];rw[Array.getElem?_setIfInBounds_self_of_lt (by omega)],hx⟩
    ·rw[if_neg e] at hu;obtain ⟨y,hy,hc⟩:=hT.get i u hu;exact ⟨y,by simp only[Act.put];rw[Array.getElem?_setIfInBounds_ne (Ne.symm e)];exact hy,hc⟩
   ·cases h
theorem cE.mono{γ aq:aK}{n:Nat}{t:ax}{a:Act}(hx:Ext γ aq)(h:cE γ n t a):cE aq n t a:=
 ⟨h.size,h.defers,fun i v hv=>let ⟨x,h1,h2⟩:=h.get i v hv;⟨x,h1,h2.mono hx _ _⟩⟩
def rB(P:Program)(cb:Cb):Prop:=
 ∀f args σ v cd,cb f args σ=some (v,cd)->∀F γ w (xs:Array Value),aL F γ σ w->az γ args xs.toList ->
  (callFunc f xs).run P w=.ok (.enter f xs) w/\∀R:Ending->World->Prop,(∀aq x w',an aq v x->aL F aq cd w'->Step γ σ aq cd->R (.returned x) w')->Calls P f xs w R
section
variable{F:di}{P:Program}{E:Env}(hE:ch P E){γ:aK}{σ:AS}{w:World}{t:ax}{ρ:Operand->Value}
include hE
theorem JC{ty:TypeId}{v:AV}{y:Value}{r:cZ}{name:String}{m:Method}{f:FuncId}(hr:E.ty ty=some r)(hm:r.info.methods.find? (·.name==name)=some m)(hp:m.path.isEmpty=true)(hf:m.func=some (f,true))
  {e:TypeId} (hd:r.bg=.pointer e) (k:Nat):(method (k+1) ty y name).run P w=.ok (f,y) w:=by
 have cx:m.path.toList=[]:=by simpa using hp
 unfold method;simp only[Sem.run_bind,l9 hE hr w,Result.andThen_ok,hm,cx,follow,Sem.run_pure,hf,receiverAt,ba hE hr w,hd,Place.get]
theorem z4(bD:o2 γ t ρ)(o:Oper){f:Nat}{args:List AV}(h:bz E t σ o.op=some (.call f args)) :
  ∃xs:Array Value,az γ args xs.toList/\(execOp ρ o).run P w=(callFunc f xs).run P w:=by
 obtain ⟨dst,op,type,pos,after,guard⟩:=o;simp only[] at h;cases op<;>simp only[bz] at h
 case call c=>
  split at h
  ·cases h
  ·rename_i as gR;have hc:=eY bD gR;split at h
   ·rename_i fo qX;split at h
    ·rename_i fv UB;have LJ:=bD _ _ UB;unfold oP at h;split at h
     ·rename_i g first cap
      simp only[Option.some.injEq,Out.call.injEq] at h;obtain ⟨rfl,rfl⟩:=h;rw[al] at LJ;refine ⟨first++c.args.map ρ++cap,?_,?_⟩
      ·simp only[Array.toList_append,Array.toList_map];exact eQ (eQ (kJ γ _) hc) (kJ γ _)
      ·simp only[execOp,resolve,qX,LJ,Deferred.ofValue,Sem.run_bind,Sem.run_pure,Result.andThen_ok,invoke]
     ·rename_i g first cap
      simp only[Option.some.injEq,Out.call.injEq] at h;obtain ⟨rfl,rfl⟩:=h;simp only[an] at LJ;obtain ⟨a',b',LJ,h1,h2⟩:=LJ;refine ⟨a'++c.args.map ρ++b',?_,?_⟩
      ·simp only[Array.toList_append,Array.toList_map];exact eQ (eQ h1 hc) h2
      ·simp only[execOp,resolve,qX,LJ,Deferred.ofValue,Sem.run_bind,Sem.run_pure,Result.andThen_ok,invoke]
     ·cases h
    ·cases h
   ·unfold gp at h;(repeat' split at h)<;>first|cases h|(obtain ⟨_,_,e⟩:=Option.map_eq_some_iff.1 h;cases e)
   ·rename_i x name qX;split at h
    ·rename_i ty v hx;split at h
     ·rename_i r hr;split at h
      ·rename_i m e hm hd;split at h
       ·rename_i g UQ AM;simp only[Option.some.injEq,Out.call.injEq] at h;obtain ⟨rfl,rfl⟩:=h;have kA:=bD _ _ hx;simp only[an] at kA;obtain ⟨y,hy,Jd⟩:=kA;refine ⟨#[y]++c.args.map ρ,?_,?_⟩
        ·simp only[Array.toList_append,Array.toList_map];simp only[List.singleton_append,az];exact ⟨y,_,rfl,Jd,hc⟩
        ·simp only[execOp,resolve,qX,hy,Sem.run_bind,Sem.run_pure,Result.andThen_ok,invoke];have h0:(#[Value.iface ty y]++c.args.map ρ)[0]?=some (.iface ty y):=by rw[Array.getElem?_append_left (by simp)];rfl
         have hex:(#[Value.iface ty y]++c.args.map ρ).extract 1 (#[Value.iface ty y]++c.args.map ρ).size=c.args.map ρ:=by
          apply Array.ext';simp[List.take_of_length_le]
         rw[h0];simp only[hex,callMethod,Sem.run_bind,run_program,Result.andThen_ok];have hk:P.types.size+Made.depth=(P.types.size+Made.depth - 1)+1:=by
          have:0<Made.depth:=by unfold Made.depth;omega
          omega
         rw[hk,JC hE (v:=v) hr hm UQ AM hd];rfl
       ·cases h
      ·cases h
     ·cases h
    ·cases h
 case convert src dst x=>
  split at h
  ·unfold mN at h;(repeat' split at h)<;>first|cases h|(obtain ⟨_,_,e⟩:=Option.map_eq_some_iff.1 h;cases e)
  ·cases h
 all_goals
  (repeat' split at h)<;>first|cases h|(obtain ⟨_,_,e⟩:=Option.map_eq_some_iff.1 h;cases e)
end
end Go.Proofs.YtmbdghclhpboaaaGreat.Ev
namespace Go.Proofs.YtmbdghclhpboaaaGreat.Ev
section
variable{F:di}{P:Program}{E:Env}(hE:ch P E){γ:aK}{σ:AS}{w:World}{t:ax}
include hE
theorem DV{cb:Cb}(mz:rB P cb){ops:Array Oper}{o:Oper}{i n:Nat}{v:AV}{cd:AS}{tag:Nat}{a:Act}(h:lH E cb ops.toList o t σ=some (v,cd,tag))(hi:ops[i]?=some o)
  (hR:aL F γ σ w) (hT:cE γ n t a) {K:Act->World->Prop} {Q:Exit->Act->World->Prop} (hK:∀aq x w',an aq v x->aL F aq cd w'->Step γ σ aq cd->K (a.put o.dst x) w'):wpOp P ops Q i K a w:=by
 unfold lH at h;unfold wpOp;simp only[hi];cases hw:cY ops.toList t o with
 | none=>rw[hw] at h;cases h
 | some b=>
   rw[hw] at h;have jS:=oC (a:=a) (γ:=γ) (n:=n) hw fun d u _ hu=>hT.get d u hu;have bD:=hT.aE;cases b with
   | false=>
     simp only[Option.some.injEq,Prod.mk.injEq] at h;obtain ⟨rfl,rfl,rfl⟩:=h;rw[jS];simp only[Bool.false_eq_true,if_false];exact hK γ undef w (aM γ _) hR (.refl γ σ)
   | true=>
     rw[jS];simp only[if_true];refine .inl ?_;unfold Oper.wp;simp only[] at h;split at h
     ·cases h
     ·rename_i u gB;simp only[Option.some.injEq,Prod.mk.injEq] at h;obtain ⟨rfl,rfl,rfl⟩:=h;obtain ⟨x,h1,h2⟩:=oZ hE hR.toRel bD o gB (.inl rfl);rw[h1,Oper.upon_value];exact hK γ x w h2 hR (.refl γ σ)
     ·rename_i u gB;simp only[Option.some.injEq,Prod.mk.injEq] at h;obtain ⟨rfl,rfl,rfl⟩:=h;obtain ⟨x,h1,h2⟩:=oZ hE hR.toRel bD o gB (.inr rfl);rw[h1,Oper.upon_value];exact hK γ x w h2 hR (.refl γ σ)
     ·rename_i ob k gB;split at h
      ·rename_i ah;have ah:=gA ah;simp only[Option.some.injEq,Prod.mk.injEq] at h;obtain ⟨rfl,rfl,rfl⟩:=h;obtain ⟨hd,uI,x,top,h1,h2⟩:=E1 hE (σ:=σ) (w:=w) bD o gB;have ni:γ σ.next=none:=hR.jv _ (Nat.le_refl _)
       have hm:=hR.more ah ob;have dd:(σ.heap.put σ.next ob).get σ.next=some ob:=by rw[T.bH _ _ _ _ (Nat.le_of_lt ah)];simp
       have hrel:=h2 (fJ γ σ.next (some ⟨w.heap.size,0,top⟩)) σ.next { w with heap:=w.heap.push uI } (iY _ ni) (bu _ _ _) (by simp)
       rw[h1,Oper.upon_value];exact hK _ x _ hrel.2 (hm.place (id:=σ.next) (by simp) ni dd hd uI 0 top hrel.1) (Step.place _ ni σ (Nat.le_refl _) (Step.more hR ah _))
      ·cases h
     ·rename_i u qR gB;simp only[Option.some.injEq,Prod.mk.injEq] at h;obtain ⟨rfl,rfl,rfl⟩:=h;obtain ⟨aq,w',nx,h1,h2,h3,h4⟩:=Kn hE hR bD o gB;rw[h1];rcases h2 with ⟨x,rfl,hx⟩|⟨rfl,rfl⟩
      ·rw[Oper.upon_value];exact hK aq x w' hx h3 h4
      ·rw[Oper.upon_skip];exact hK aq undef w' (aM aq _) h3 h4
     ·rename_i f args gB;split at h
      ·rename_i N2;rw[Bool.and_eq_true] at N2;obtain ⟨ys,rm⟩:=Option.isSome_iff_exists.1 N2.2;split at h
       ·rename_i u qR hc;split at h
        ·rename_i y hy;simp only[Option.some.injEq,Prod.mk.injEq] at h;obtain ⟨rfl,rfl,rfl⟩:=h;obtain ⟨xs,gw,cW⟩:=z4 hE (w:=w) bD o gB;have hxs':az emp args xs.toList:=by
          rw[kL args ys _ rm gw];exact hY args ys rm
         obtain ⟨c1,c2⟩:=mz f args Sw _ _ hc (NF w emp) emp w xs (BE w) hxs';rw[cW,c1,Oper.upon_enter];refine c2 _ fun aq x w' hx hr _=>?_;rw[iZ u y x hy hx];exact hK γ y w' (kx u y hy) (hR.grown (CS hr.frame)) (.refl γ σ)
        ·cases h
       ·cases h
      split at h
      ·rename_i u qR hc;simp only[Option.some.injEq,Prod.mk.injEq] at h;obtain ⟨rfl,rfl,rfl⟩:=h;obtain ⟨xs,gw,cW⟩:=z4 hE (w:=w) bD o gB;obtain ⟨c1,c2⟩:=mz f args σ _ _ hc F γ w xs hR gw;rw[cW,c1,Oper.upon_enter];exact c2 _ fun aq x w' hx hr hs=>hK aq x w' hx hr hs
      ·cases h
theorem Ij{cb:Cb}(mz:rB P cb){ops:Array Oper}{n:Nat}(hn:n<=aU){Q:Exit->Act->World->Prop}:∀(l:List Oper) (i:Nat) (t t':ax) (σ cd:AS) (γ:aK) (w:World) (a:Act),
  Ii E cb n ops.toList l t σ=some (t',cd)->ops.toList.drop i=l->aL F γ σ w->cE γ n t a ->
  (∀aq a' w',aL F aq cd w'->cE aq n t' a'->Step γ σ aq cd->Q .normal a' w')->wpOps P ops Q ((List.range (ops.size - i)).map (·+i)) a w
 | [],i,t,t',σ,cd,γ,w,a,h,hd,hR,hT,hQ=>by
   simp only[Ii,Option.some.injEq,Prod.mk.injEq] at h;obtain ⟨rfl,rfl⟩:=h;have:ops.size - i=0:=by
    have:=congrArg List.length hd;simpa using this
   rw[this];exact hQ γ a w hR hT (.refl γ σ)
 | o::rest,i,t,t',σ,cd,γ,w,a,h,hd,hR,hT,hQ=>by
   have ah:i<ops.size:=by
    have:=congrArg List.length hd;simp at this;omega
   have hi:ops[i]?=some o:=by
    have h1:ops.toList[i]?=some o:=by
     have:(ops.toList.drop i)[0]?=some o:=by rw[hd];rfl
     rw[List.getElem?_drop] at this;simpa using this
    simpa using h1
   have qk:ops.toList.drop (i+1)=rest:=by
    have:=congrArg List.tail hd;simpa [List.tail_drop] using this
   rw[show ops.size - i=(ops.size - (i+1))+1 by omega,List.range_succ_eq_map,List.map_cons,List.map_map,wpOps_cons,Nat.zero_add];have AM:((fun x=>x+i)∘Nat.succ)=(fun x=>x+(i+1)):=by funext x;simp;omega
   rw[AM];simp only[Ii] at h;split at h
   ·rename_i v gg tag hs;split at h
    ·rename_i t1 hp;refine DV hE mz hs hi hR hT fun eT x w1 hx fq fg=>?_;exact Ij mz hn rest (i+1) t1 t' gg cd eT w1 _ h qk fq (nu (hT.mono fg.ext) hp hn hx) fun aq a' w' h1 h2 h3=>hQ aq a' w' h1 h2 (fg.trans h3)
    ·cases h
   ·cases h
end
end Go.Proofs.YtmbdghclhpboaaaGreat.Ev
namespace Go.Proofs.YtmbdghclhpboaaaGreat.Ev
theorem jY(m i j:Nat):has (Nat.lor m (Nat.shiftLeft 1 i)) j=(has m j || decide (j=i)):=by
 unfold has;rw[show Nat.lor m (Nat.shiftLeft 1 i)=m ||| (1 <<< i) from rfl,Nat.testBit_or,Nat.testBit_shiftLeft];congr 1;by_cases h:j=i
 ·subst h;simp
 ·by_cases h':i<=j
  ·cases hk:j - i with
   | zero=>omega
   | succ k=>simp[h,h',Nat.testBit_succ]
  ·simp[h,h']
theorem jy(j:Nat):has 0 j=false:=by simp[has]
theorem BC{done:Nat}{r:Row}:ready done r=true↔∀j,has r.pm j=true->has done j=true:=by
 unfold ready has;rw[show Nat.land r.pm done=r.pm &&& done from rfl];constructor
 ·intro h j hj;have h:=Nat.eq_of_beq_eq_true h;have:=congrArg (Nat.testBit · j) h;simp only[Nat.testBit_and] at this;rw[hj] at this;simpa using this
 ·intro h;have:r.pm &&& done=r.pm:=Nat.eq_of_testBit_eq fun j=>by
   rw[Nat.testBit_and];cases hj:Nat.testBit r.pm j with
   | false=>rfl
   | true=>simp[h j hj]
  rw[this];exact Nat.beq_refl _
theorem jZ(j:Nat):∀l:List Edge,has (jA l) j=true↔∃e∈l,Region.binds .any e=true/\e.on=j
 | []=>by simp[jA,jy]
 | e::l=>by
   simp only[jA];cases hb:Region.binds .any e with
   | false=>
     simp only[];rw[jZ j l];constructor
     ·rintro ⟨x,h1,h2⟩;exact ⟨x,List.mem_cons_of_mem _ h1,h2⟩
     ·rintro ⟨x,h1,h2,h3⟩;rcases List.mem_cons.1 h1 with rfl|h1
      ·rw[hb] at h2;cases h2
      ·exact ⟨x,h1,h2,h3⟩
   | true=>
     simp only[];rw[show Nat.lor (Nat.shiftLeft 1 e.on) (jA l)=Nat.lor (jA l) (Nat.shiftLeft 1 e.on) from Nat.or_comm _ _,jY,Bool.or_eq_true,jZ j l,decide_eq_true_iff];constructor
     ·rintro (⟨x,h1,h2⟩|rfl)
      ·exact ⟨x,List.mem_cons_of_mem _ h1,h2⟩
      ·exact ⟨e,by simp,hb,rfl⟩
     ·rintro ⟨x,h1,h2,h3⟩;rcases List.mem_cons.1 h1 with rfl|h1
      ·exact .inr h3.symm
      ·exact .inl ⟨x,h1,h2,h3⟩
theorem QD{m i j:Nat}(h:Nat.blt m (Nat.shiftLeft 1 i)=true)(hj:has m j=true):j<i:=by
 have h1:m<1 <<< i:=gA h;rw[Nat.one_shiftLeft] at h1;have h2:=Nat.ge_two_pow_of_testBit hj;exact (Nat.pow_lt_pow_iff_right (a:=2) (by omega)).1 (Nat.lt_of_le_of_lt h2 h1)
theorem tn:∀{l:List Nat} {n:Nat},n8 l n=true↔n∈l
 | [],n=>by simp[n8]
 | x::l,n=>by
   simp only[n8];cases hb:Nat.beq x n with
   | true=>simp[Nat.eq_of_beq_eq_true hb]
   | false=>simp[tn,Ne.symm (Nat.ne_of_beq_eq_false hb)]
theorem Rf{l:List Nat}{n:Nat}(h:n8 l n=false):n∉l:=fun hm=>by rw[tn.2 hm] at h;cases h
def xK(ops:Array Oper)(i:Nat)(o:Oper):Row:=⟨i,o,jA o.after.toList,early o.op,o.looksAt ops⟩
theorem pf{ops:Array Oper}:∀{l:List Oper} {i:Nat} {r:Row},r∈dR ops i l↔∃k o,l[k]?=some o/\r=xK ops (i+k) o
 | [],i,r=>by simp[dR]
 | o::l,i,r=>by
   simp only[dR,List.mem_cons];rw[pf];constructor
   ·rintro (rfl|⟨k,p,h1,h2⟩)
    ·exact ⟨0,o,rfl,rfl⟩
    ·exact ⟨k+1,p,by simpa using h1,by rw[h2,show i+1+k=i+(k+1) by omega]⟩
   ·rintro ⟨k,p,h1,h2⟩;cases k with
    | zero=>simp only[List.getElem?_cons_zero,Option.some.injEq] at h1;subst h1;exact .inl h2
    | succ k=>exact .inr ⟨k,p,by simpa using h1,by rw[h2,show i+1+k=i+(k+1) by omega]⟩
structure Kl(a b:Row):Prop where
 looks:∀d,a.o.dst=some d->d∈b.looks->has b.pm a.i=true\/(has a.pm b.i=true/\a.early=false)
 dst:∀d,a.o.dst=some d->b.o.dst=some d->a.early=false/\b.early=false
theorem Me{a b:Row}(h:wG a b=true):Kl a b:=by
 unfold wG at h;cases hd:a.o.dst with
 | none=>exact ⟨fun d e _=>by simp[hd] at e,fun d e _=>by simp[hd] at e⟩
 | some d=>
   rw[hd] at h;simp only[Bool.and_eq_true] at h;obtain ⟨h1,h2⟩:=h;refine ⟨fun d' e hm=>?_,fun d' e e'=>?_⟩<;>(have e:=Option.some.inj (hd.symm.trans e);subst e)
   ·rw[tn.2 hm] at h1;simpa using h1
   ·rw[e'] at h2;simp only[Nat.beq_refl,Bool.and_eq_true,Bool.not_eq_true'] at h2;exact ⟨h2.1.2,h2.2⟩
structure mZ(ops:Array Oper)(rows:List Row):Prop where
 row:∀r∈rows,ops[r.i]?=some r.o/\r=xK ops r.i r.o
 all:∀i o,ops[i]?=some o->xK ops i o∈rows
 lt:∀r∈rows,∀j,has r.pm j=true->j<r.i
 self:∀r∈rows,r.early=true->∀d,r.o.dst=some d->d∉r.looks
 pair:∀r∈rows,∀q∈rows,r.i≠q.i->Kl r q
theorem mZ.eq{ops:Array Oper}{rows:List Row}(h:mZ ops rows){r q:Row}(hr:r∈rows)(hq:q∈rows)(e:r.i=q.i):r=q:=by
 obtain ⟨h1,h2⟩:=h.row r hr;obtain ⟨h3,h4⟩:=h.row q hq;rw[e,h3] at h1;rw[h2,h4,e,Option.some.inj h1]
theorem Dg:∀{l:List Row},indep l=true->(∀r∈l,Nat.blt r.pm (Nat.shiftLeft 1 r.i)=true/\Fi r=true)/\∀r∈l,∀q∈l,r.i≠q.i->wG r q=true
 | [],_=>⟨by simp,by simp⟩
 | x::l,h=>by
   simp only[indep,Bool.and_eq_true,List.all_eq_true] at h;obtain ⟨⟨⟨h1,h2⟩,h3⟩,h4⟩:=h;obtain ⟨i1,i2⟩:=Dg h4;refine ⟨fun r hr=>?_,fun r hr q hq aN=>?_⟩
   ·rcases List.mem_cons.1 hr with rfl|hr
    ·exact ⟨h1,h2⟩
    ·exact i1 r hr
   ·rcases List.mem_cons.1 hr with er|hr<;>rcases List.mem_cons.1 hq with eq|hq
    ·exact absurd (by rw[er,eq]) aN
    ·rw[er];exact (h3 q hq).1
    ·rw[eq];exact (h3 r hr).2
    ·exact i2 r hr q hq aN
theorem HY{ops:Array Oper}(h:indep (dR ops 0 ops.toList)=true):mZ ops (dR ops 0 ops.toList):=by
 obtain ⟨h1,h2⟩:=Dg h;refine ⟨fun r hr=>?_,fun i o ho=>?_,fun r hr j hj=>QD (h1 r hr).1 hj,fun r hr he d hd hm=>?_,fun r hr q hq aN=>Me (h2 r hr q hq aN)⟩
 ·obtain ⟨k,o,hk,rfl⟩:=pf.1 hr;refine ⟨?_,rfl⟩;simp only[xK,Nat.zero_add];simpa using hk
 ·exact pf.2 ⟨i,o,by simpa using ho,by rw[Nat.zero_add]⟩
 ·have:=(h1 r hr).2;unfold Fi at this;rw[he,hd] at this;simp only[Bool.not_eq_true'] at this;exact Rf this hm
theorem Ao{E:Env}{t:ax}{σ:AS}{op:Op}{v:AV}(cd:AS)(h:bz E t σ op=some (.pure v)):bz E t cd op=some (.pure v):=by
 cases op<;>simp only[bz] at h ⊢<;>first|exact h|skip
 case convert src dst x=>
  split at h
  ·rename_i y hy;unfold mN at h ⊢;(repeat' split at h)<;>first|cases h|skip
   all_goals first|(simp_all;done)|skip
   all_goals (obtain ⟨_,_,e⟩:=Option.map_eq_some_iff.1 h;cases e)
  ·cases h
 case call c=>
  split at h
  ·cases h
  ·rename_i as ha;split at h
   ·exact h
   ·rename_i b hb;unfold gp at h ⊢;(repeat' split at h)<;>first|cases h|(simp_all;done)|(obtain ⟨_,_,e⟩:=Option.map_eq_some_iff.1 h;cases e)|skip
   ·exact h
 all_goals
  (repeat' split at h)<;>first|cases h|(obtain ⟨_,_,e⟩:=Option.map_eq_some_iff.1 h;cases e)
theorem xn{E:Env}{t:ax}{σ:AS}{op:Op}{ob:af}{k:qS}(cd:AS)(h:bz E t σ op=some (.new ob k)):bz E t cd op=some (.new ob k):=by
 cases op<;>simp only[bz] at h ⊢<;>first|exact h|skip
 case convert src dst x=>
  split at h
  ·rename_i y hy;unfold mN at h;(repeat' split at h)<;>first|cases h|(obtain ⟨_,_,e⟩:=Option.map_eq_some_iff.1 h;cases e)
  ·cases h
 case call c=>
  split at h
  ·cases h
  ·rename_i as ha;split at h
   ·unfold oP at h;(repeat' split at h)<;>cases h
   ·rename_i b hb;unfold gp at h;(repeat' split at h)<;>first|cases h|(obtain ⟨_,_,e⟩:=Option.map_eq_some_iff.1 h;cases e)
   ·(repeat' split at h)<;>cases h
 all_goals
  (repeat' split at h)<;>first|cases h|(obtain ⟨_,_,e⟩:=Option.map_eq_some_iff.1 h;cases e)
theorem rN{E:Env}{t:ax}{σ:AS}{op:Op}{out:Out}(he:early op=true)(h:bz E t σ op=some out) :
  (∃v,out=.pure v)\/(∃v,out=.read v)\/∃ob k,out=.new ob k:=by
 cases op<;>simp only[early,Bool.false_eq_true] at he<;>simp only[bz] at h
 case convert src dst x=>
  split at h
  ·rename_i y hy;unfold mN at h;(repeat' split at h)<;>first
    | (simp at h;done)
    | (simp only[Option.some.injEq] at h;subst h;first|exact .inl ⟨_,rfl⟩|exact .inr (.inl ⟨_,rfl⟩)|exact .inr (.inr ⟨_,_,rfl⟩))
    | (obtain ⟨_,_,rfl⟩:=Option.map_eq_some_iff.1 h;exact .inr (.inl ⟨_,rfl⟩))
  ·cases h
 case call c=>
  split at h
  ·cases h
  ·rename_i as ha;split at he;all_goals first|cases he|skip
   all_goals (rename_i hb;simp only[hb] at h;unfold gp at h;(repeat' split at h)<;>first|cases h|(obtain ⟨_,_,rfl⟩:=Option.map_eq_some_iff.1 h;first|exact .inl ⟨_,rfl⟩|exact .inr (.inl ⟨_,rfl⟩))|(simp at *;done))
 all_goals
  (repeat' split at h)<;>first
   | (simp at h;done)
   | (simp only[Option.some.injEq] at h;subst h;first|exact .inl ⟨_,rfl⟩|exact .inr (.inl ⟨_,rfl⟩)|exact .inr (.inr ⟨_,_,rfl⟩))
   | (obtain ⟨_,_,rfl⟩:=Option.map_eq_some_iff.1 h;first|exact .inl ⟨_,rfl⟩|exact .inr (.inl ⟨_,rfl⟩)|exact .inr (.inr ⟨_,_,rfl⟩))
   | (simp only[Option.some.injEq] at h;subst h;first|exact .inl ⟨_,rfl⟩|exact .inr (.inl ⟨_,rfl⟩)|exact .inr (.inr ⟨_,_,rfl⟩))
end Go.Proofs.YtmbdghclhpboaaaGreat.Ev
