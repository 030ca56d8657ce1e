/- Part of the proof: SyB SyC. Conditions: as each states. -/
import Derived.Test.YtmbdghclhpboaaaGreatPq11
set_option linter.all false
namespace Go.Proofs.YtmbdghclhpboaaaGreat.Ev
section
variable{P:Program}{S:List Nat}{E:Env}{t:aE}{H:List ai}{K:AV->List ai->Prop}
theorem oG{ty:TypeId}{L:Nat->TypeDesc->Prop}(h:tT E ty L):∃r,E.ty ty=some r/\L r.info.size r.bp:=by
 unfold tT at h;split at h
 ·rename_i hr;exact ⟨_,hr,h⟩
 ·exact h.elim
theorem yN{ty:TypeId}{cs:List AV}{off:Nat}{L:AV->Prop}(h:Cq E ty cs off L):∃v,partOf E ty cs off=some v/\L v:=by
 unfold Cq at h;obtain ⟨r,hr,h⟩:=oG h;unfold partOf;rw[hr];simp only[];split at h
 ·rename_i ha;rw[ha];simp only[];split at h
  ·rename_i hb;rw[hb];rw[sN] at h;exact ⟨_,rfl,h⟩
  ·exact h.elim
 ·rename_i ha;rw[ha];simp only[];split at h
  ·rename_i v hv;exact ⟨v,hv,h⟩
  ·exact h.elim
theorem Bz{ty:TypeId}{f:Nat}{L:TypeId->Nat->Prop}(h:Ax E ty f L):∃r fs fd,E.ty ty=some r/\r.bp=.struct fs/\fs[f]?=some fd/\L fd.type fd.offset:=by
 unfold Ax at h;split at h
 ·rename_i r hr;split at h
  ·rename_i fs hu;split at h
   ·rename_i hf;exact ⟨r,fs,_,hr,hu,by simpa using hf,h⟩
   ·exact h.elim
  ·exact h.elim
 ·exact h.elim
theorem IP{n:Nat}{i:AV}{L:Nat->Prop}(h:Mi n i L):∃k,l5 i=some k/\Nat.blt k n=true/\L k:=by
 unfold Mi at h;split at h
 ·obtain ⟨k,rfl,h1,h2⟩:=h.out;exact ⟨k,rfl,Nat.ble_eq_true_of_le h1,h2⟩
 ·exact h.elim
theorem wT{σ:AS}{op:Op}{ob:ai}{k:rS}(h:bK E t σ op=some (.new ob k)):vw ob=ob:=by
 cases op<;>simp only[bK] at h
 case call c=>
  exfalso;split at h
  ·cases h
  ·split at h
   ·split at h
    ·unfold pC at h;(repeat' split at h)<;>cases h
    ·cases h
   ·unfold gP at h;(repeat' split at h)<;>first|cases h|(obtain ⟨_,_,e⟩:=oM1.1 h;cases e)
   ·(repeat' split at h)<;>cases h
 case convert src dst x=>
  exfalso;split at h
  ·unfold nL at h;(repeat' split at h)<;>first|cases h|(obtain ⟨_,_,e⟩:=oM1.1 h;cases e)
  ·cases h
 all_goals
  (repeat' split at h)<;>first|(cases h;done)|(cases h;rfl)|(obtain ⟨_,_,e⟩:=oM1.1 h;cases e;done)|(obtain ⟨_,_,e⟩:=oM1.1 h;cases e;rfl)
theorem CK(hl:H.length<=aY):∀{rs:List ResultVar} {L:List AV->Prop},EF E t H rs L->∃l,eO (rs.map (kY E t (hp H)))=some l/\L l
 | [],L,h=>⟨[],rfl,h⟩
 | .tmp i::rs,L,h=>by
   simp only[EF] at h;split at h
   ·rename_i v hv;obtain ⟨l,h1,h2⟩:=CK hl h;exact ⟨v::l,by simp only[List.map_cons,kY,hv,eO,h1],h2⟩
   ·exact h.elim
 | .cell a ty::rs,L,h=>by
   simp only[EF] at h;split at h
   ·rename_i o off ha;split at h
    ·rename_i cs e ho;obtain ⟨v,hv,h⟩:=yN h;obtain ⟨l,h1,h2⟩:=CK hl h;exact ⟨v::l,by simp only[List.map_cons,kY,ha,loadAt,aZ hl,ho,Option.map_some,vw,hv,eO,h1],h2⟩
    ·exact h.elim
   ·exact h.elim
theorem Pv(hl:H.length<=aY){fn:Func}(h:Ia E fn K .ret t H):∃v,oF E t (hp H) fn.results.toList=some v/\K v H:=by
 unfold Ia at h;obtain ⟨l,h1,h2⟩:=CK hl h;unfold oF;rw[h1];split at h2
 ·exact ⟨_,rfl,sU h2⟩
 ·exact ⟨_,rfl,h2⟩
 ·rename_i l Xs ZS;refine ⟨_,?_,h2⟩;split
  ·rename_i v e;cases e;exact absurd rfl (Xs v)
  ·rename_i e;cases e;exact absurd rfl ZS
  ·rename_i l' _ _ e;cases e;rfl
  ·rename_i e;cases e
theorem BW(h:H.length<=aY):zc (hp H) H:=⟨rfl,fun o=>aZ h o⟩
theorem qn(h:H.length<=aY){o:Nat}(ho:o<H.length){ob:ai}:zc { hp H with heap:=(hp H).heap.put o (vw ob) } (H.set o ob):=by
 refine ⟨by simp[hp],fun q=>?_⟩;simp only[];rw[T.bN _ _ _ _ (by omega),aZ h,List.getElem?_set];by_cases e:q=o
 ·subst e;simp[ho]
 ·rw[if_neg e,if_neg (Ne.symm e)]
theorem jS(v:AV):rf H.length v (hp H).next=true:=by simp[rf,hp]
theorem Cj{m:Bool}(hl:H.length<=aY){op:Op}(h:TQ E P m S t H K op):(∃out,bK E t (hp H) op=some out/\Ja P S H K out)\/(m=true/\eH P S t H op K):=by
 unfold TQ at h;split at h
 ·exact h.out
 ·have gen:∀{op:Op},(match bK E t (hp H) op with
    | some (.pure v)=>K v H
    | some (.read v)=>K v H
    | some (.new ob k)=>match Nat.blt H.length aY with
      | true=>Wr ob (fun ob=>p6 H ob (fun H'=>oX (qT H 0) fun n=>K (k.val n) H'))
      | false=>False
    | _=>False)->(∃out,bK E t (hp H) op=some out/\Ja P S H K out)\/(m=true/\eH P S t H op K):=by
   intro op h;split at h
   ·rename_i v hv;exact .inl ⟨_,hv,h⟩
   ·rename_i v hv;exact .inl ⟨_,hv,h⟩
   ·rename_i ob k hv;split at h
    ·rename_i hb;rw[SY,lF,jh,lQ,Nat.zero_add] at h;exact .inl ⟨_,hv,gZ hb,h⟩
    ·exact h.elim
   ·exact h.elim
  cases op<;>simp only[] at h
  case fieldAddr ty x f=>
   split at h
   ·rename_i p off hx;obtain ⟨r,fs,fd,h1,h2,h3,h⟩:=Bz h;obtain ⟨fr,h4,h⟩:=oG h;split at h
    ·rename_i hb;refine .inl ⟨.pure (.ptr p (off+fd.offset)),?_,h⟩;simp only[bK,h1,hx,h2,h3,h4,hb]
    ·exact h.elim
   ·exact h.out
   ·exact h.elim
  case field ty x f=>
   split at h
   ·rename_i cs hx;obtain ⟨r,fs,fd,h1,h2,h3,h⟩:=Bz h;obtain ⟨v,h4,h⟩:=yN h;refine .inl ⟨.pure v,?_,h⟩;simp only[bK,h1,hx,h2,h3,h4,Option.map_some]
   ·exact h.elim
  case indexAddr ty x i=>
   split at h
   ·rename_i x' i' hx hi;split at h
    ·rename_i r hr;split at h
     ·rename_i len elem hu;split at h
      ·rename_i p off;obtain ⟨er,h1,h⟩:=oG h;obtain ⟨k,h2,h3,h⟩:=IP h;refine .inl ⟨.pure (.ptr p (off+k * er.info.size)),?_,h⟩;simp only[bK,hr,hx,hi,hu,h2,h1,h3]
      ·exact h.elim
     ·rename_i elem hu;split at h
      ·rename_i p off len cap;obtain ⟨er,h1,h⟩:=oG h;obtain ⟨k,h2,h3,h⟩:=IP h;refine .inl ⟨.pure (.ptr p (off+k * er.info.size)),?_,h⟩;simp only[bK,hr,hx,hi,hu,h2,h1,h3]
      ·exact h.out
      ·exact h.elim
     ·exact h.elim
    ·exact h.elim
   ·exact h.elim
  case load ty a=>
   split at h
   ·rename_i p off ha;split at h
    ·rename_i l e bX;obtain ⟨v,h1,h⟩:=yN h;refine .inl ⟨.read v,?_,h⟩;simp only[bK,ha,loadAt,aZ hl,bX,Option.map_some,vw,h1]
    ·rename_i xs e bX;obtain ⟨r,h1,h⟩:=oG h;obtain ⟨v,h2,h⟩:=h.out;refine .inl ⟨.read v,?_,h⟩;simp only[bK,ha,loadAt,aZ hl,bX,Option.map_some,vw,partOf,h1];cases Iw:bQ r.bp with
     | true=>
       rw[Iw] at h2;simp only[] at h2 ⊢;split at h2
       ·rename_i hle;have hb:Nat.ble (off+r.info.size) (xs.map AV.lit).length=true:=Nat.ble_eq_true_of_le (by simpa using hle);rw[hb];simpa using h2
       ·cases h2
     | false=>
       rw[Iw] at h2;simp only[] at h2 ⊢;rw[h2];rfl
    ·exact h.elim
   ·exact h.out
   ·exact h.elim
  case store ty a v'=>
   split at h
   ·rename_i p off v ha hv;split at h
    ·rename_i l e bX;obtain ⟨r,h1,h⟩:=oG h;split at h
     ·rename_i hb;rw[sN,k9] at h;have an:p<H.length:=(lE1.1 bX).1;refine .inl ⟨.act aQ { hp H with heap:=(hp H).heap.put p (.cells (setFrom l off v.cells) e) },?_,_,qn (ob:=.cells (setFrom l off v.cells) e) hl an,jS _,.of_eq (qC (ob:=.cells (setFrom l off v.cells) e) bX rfl).symm,h⟩;simp only[bK,ha,hv,xT,h1,aZ hl,bX,Option.map_some,vw,hb]
     ·exact h.elim
    ·exact h.out
    ·exact h.elim
   ·exact h.out
   ·exact h.elim
  case assign x=>
   split at h
   ·rename_i v hv;exact .inl ⟨.act v (hp H),by simp only[bK,hv,Option.map_some],H,BW hl,jS _,.refl _,h⟩
   ·exact h.elim
  case box e x=>
   split at h
   ·rename_i v hv;split at h
    ·rename_i hb;rw[sN,lF,jh,lQ,Nat.zero_add] at h;refine .inl ⟨.new (.cells v.cells _) .ptr,?_,gZ hb,h⟩;simp only[bK,hv,Option.map_some]
    ·exact h.elim
   ·exact h.elim
  case call c=>
   split at h
   ·rename_i b rX;split at h
    ·split at h
     ·rename_i s x iD;split at h
      ·rename_i ty xt nP;split at h
       ·rename_i xr yz;split at h
        ·exact h.elim
        ·rename_i hni;split at h
         ·exact h.out
         rcases h.out with ⟨v,σ,H',h1,h2,h3,h4⟩|hm;rotate_left
         ·exact .inr hm
         refine .inl ⟨.act v σ,?_,H',h2,h3,h4⟩;simp only[bK,iD,rX,gP,nP,yz];rw[h1];rfl
       ·exact h.elim
      ·exact h.elim
     ·exact h.elim
    ·split at h
     ·rename_i args iD;split at h
      ·rename_i v hv;exact .inl ⟨.pure v,by simp only[bK,iD,rX,hv],h⟩
      ·rename_i v hv;exact .inl ⟨.read v,by simp only[bK,iD,rX,hv],h⟩
      ·exact h.elim
     ·exact h.elim
   ·split at h
    ·rename_i f args hv;rw[sN] at h;exact .inl ⟨_,hv,h⟩
    ·exact h.elim
  all_goals exact gen h
end
section
variable{F:dN}{P:Program}{S:List Nat}{E:Env}(hE:cL P E){γ:aT}{w:World}{t:aE}{H:List ai}{K:AV->List ai->Prop}
include hE
theorem Eu(hR:aU F γ (hp H) w)(cE:∀o,o<H.length->o∉S->γ o≠none)(cK:Rs F γ H w){a:Act}(bJ:pM γ t a.eval){o:Oper}{out:Out}(g0:bK E t (hp H) o.op=some out)(hk:Ja P S H K out){K':Act->World->Prop}{Q:Exit->Act->World->Prop}
  (hK:∀v H' ay x w',K v H'->aw ay v x->GX F γ S H ay H' w'->K' (a.put o.dst x) w'):o.wp P a w K' Q:=by
 have fy:H.length<=aY:=hR.aY;unfold Oper.wp;obtain ⟨F',lj,FK⟩:=tK hR cK;cases out with
 | pure v=>
   obtain ⟨x,h1,h2⟩:=pJ hE hR.toRel bJ o g0 (.inl rfl);rw[h1,Oper.upon_value];exact hK v H γ x w hk h2 ⟨hR,.refl γ _,cE,cK⟩
 | read v=>
   obtain ⟨x,h1,h2⟩:=pJ hE hR.toRel bJ o g0 (.inr rfl);rw[h1,Oper.upon_value];exact hK v H γ x w hk h2 ⟨hR,.refl γ _,cE,cK⟩
 | new ob k=>
   obtain ⟨an,hk⟩:=hk;have NW:=wT g0;obtain ⟨hd,vi,x,top,h1,h2⟩:=Gi hE (σ:=hp H) (w:=w) bJ o g0;have og:γ (hp H).next=none:=hR.j6 _ (Nat.le_refl _)
   have hm:=lj.more (show (hp H).next<aY from an) ob;have dz:((hp H).heap.put (hp H).next ob).get (hp H).next=some ob:=by rw[T.bN _ _ _ _ (show (hp H).next<=aY from Nat.le_of_lt an)];simp
   have hrel:=h2 (gh γ (hp H).next (some ⟨w.heap.size,0,top⟩)) (hp H).next { w with heap:=w.heap.push vi } (jH _ og) (bI _ _ _) (by simp)
   rw[h1,Oper.upon_value];have kH:=hm.place (id:=(hp H).next) (by simp) og dz hd vi 0 top hrel.1;have heq:zc { heap:=(hp H).heap.put (hp H).next ob,next:=(hp H).next+1 } (H++[ob]):=by
    refine ⟨by simp[hp],fun q=>?_⟩;simp only[];rw[T.bN _ _ _ _ (show (hp H).next<=aY from Nat.le_of_lt an),aZ fy];by_cases e:q=(hp H).next
    ·subst e;rw[if_pos rfl];simp[hp,NW]
    ·rw[if_neg e];have e:q≠H.length:=e;rcases Nat.lt_or_ge q H.length with h5|h5
     ·rw[List.getElem?_append_left h5]
     ·rw[List.getElem?_eq_none h5,List.getElem?_eq_none (by simp;omega)]
   obtain ⟨qo,vB⟩:=FK _ _ _ (kH.J0 heq);have nV:iI ob=aB:=by cases ob<;>first|rfl|cases NW
   refine hK _ _ _ x _ hk hrel.2 ⟨qo,(Step.place _ og _ (Nat.le_refl _) (Step.more hR an ob)).J0 heq (by have:=kH.aY;have:=heq.next;omega),fun q hq hqS=>?_,vB _ (qd nV)⟩;simp only[List.length_append,List.length_cons,List.length_nil] at hq;by_cases e:q=(hp H).next
   ·subst e;rw[bI];simp
   ·rw[ck _ _ e];have e:q≠H.length:=e;exact cE q (by omega) hqS
 | act v σ=>
   obtain ⟨H',h5,h6,h7,hk⟩:=hk;obtain ⟨ay,w',nx,h1,h2,h3,h4⟩:=LS hE lj bJ o g0;obtain ⟨qo,vB⟩:=FK _ _ _ (h3.J0 h5);have hold:∀q,q<H.length->q∉S->ay q≠none:=fun q hq hS hn=>by
    cases hg:γ q with
    | none=>exact cE q hq hS hg
    | some p=>rcases h4.ext q p hg with h|h<;>rw[h] at hn<;>cases hn
   rw[h1];rcases h2 with ⟨x,rfl,hx⟩|⟨rfl,rfl⟩
   ·rw[Oper.upon_value];refine hK v H' ay x w' hk hx ⟨qo,h4.J0 h5 (by have:=h3.aY;have:=h5.next;omega),fun q hq hS=>?_,vB _ h7⟩;rcases Nat.lt_or_ge q H.length with fu|fu
    ·exact hold q fu hS
    ·have hn:=h5.next
     unfold rf at h6;rw[Bool.or_eq_true] at h6;rcases h6 with h6|h6
     ·have:=nQ1 h6;omega
     ·split at h6
      ·rw[Bool.and_eq_true] at h6;have e1:=nQ1 h6.1;have e2:=nQ1 h6.2;have e3:q=H.length:=by omega
       subst e3;rw[e1] at hx;simp only[aw] at hx;obtain ⟨ad,c,_,_,_,xf⟩:=hx;intro hn;unfold pa at xf;rw[hn] at xf;exact xf
      ·rw[Bool.and_eq_true] at h6;have e1:=nQ1 h6.1;have e2:=nQ1 h6.2;have e3:q=H.length:=by omega
       subst e3;rw[e1] at hx;simp only[aw] at hx;obtain ⟨ad,_,dO⟩:=hx;exact dO.ne
      ·cases h6
   ·rw[Oper.upon_skip];refine hK aQ H' ay undef w' hk (aS ay _) ⟨qo,h4.J0 h5 (by have:=h3.aY;have:=h5.next;omega),fun q hq hS=>?_,vB _ h7⟩;have hn:=h5.next
    have:σ.next=H.length:=by
     unfold rf aQ at h6;simpa using h6
    exact hold q (by omega) hS
 | call f args=>
   obtain ⟨xs,gV,dB⟩:=Bg hE (w:=w) bJ o g0;obtain ⟨c1,c2⟩:=aj.out hk F γ w xs hR cE cK gV;rw[dB,c1,Oper.upon_enter];exact c2 _ fun v H' ay x w' h1 h2 h3=>hK v H' ay x w' h1 h2 h3
omit hE in
theorem I8{t0:aE}{o:Oper}(h:eH P S t0 H o.op K)(hR:aU F γ (hp H) w)(cE:∀o,o<H.length->o∉S->γ o≠none)(cK:Rs F γ H w){a:Act}(bJ:pM γ t a.eval)(hs:∀x,x∈o.op.operands.toList->aL t0 x=aL t x){K':Act->World->Prop}{Q:Exit->Act->World->Prop}
  (hK:∀v H' ay x w',K v H'->aw ay v x->GX F γ S H ay H' w'->K' (a.put o.dst x) w'):o.wp P a w K' Q:=by
 unfold Oper.wp;obtain ⟨v,H',ay,nx,w',h1,h2,h3,h4⟩:=h.out F γ w a.eval hR cE cK (fun x v hx hv=>bJ x v (by rw[<-hs x hx];exact hv)) o rfl;rw[h1];rcases h2 with ⟨x,rfl,hx⟩|⟨rfl,rfl⟩
 ·rw[Oper.upon_value];exact hK v H' ay x w' h3 hx h4
 ·rw[Oper.upon_skip];exact hK aQ H' ay undef w' h3 (aS ay _) h4
theorem LA{ops:Array Oper}{o:Oper}{i n:Nat}{a:Act}(h:rM E P S ops.toList o t H K)(hi:ops[i]?=some o)(hR:aU F γ (hp H) w)(cE:∀o,o<H.length->o∉S->γ o≠none)(cK:Rs F γ H w)(hT:cW γ n t a){K':Act->World->Prop}{Q:Exit->Act->World->Prop}
  (hK:∀v H' ay x w',K v H'->aw ay v x->GX F γ S H ay H' w'->K' (a.put o.dst x) w'):wpOp P ops Q i K' a w:=by
 unfold rM at h;unfold wpOp;simp only[hi];cases hw:dD ops.toList t o with
 | none=>rw[hw] at h;exact h.elim
 | some b=>
   rw[hw] at h;have kI:=pc (a:=a) (γ:=γ) (n:=n) hw fun d u _ hu=>hT.get d u hu;cases b with
   | false=>
     rw[kI];simp only[Bool.false_eq_true,if_false];exact hK aQ H γ undef w h (aS γ _) ⟨hR,.refl γ _,cE,cK⟩
   | true=>
     rw[kI];simp only[if_true];refine .inl ?_;rcases Cj hR.aY h with ⟨out,h1,h2⟩|⟨_,h1⟩
     ·exact Eu hE hR cE cK hT.aL h1 h2 hK
     ·exact I8 h1 hR cE cK hT.aL (fun _ _=>rfl) hK
theorem E1{ops:Array Oper}{o:Oper}{i n:Nat}{a:Act}(h:rM E P [] ops.toList o t H K)(hi:ops[i]?=some o)(hR:Rl F γ H w)(hT:cW γ n t a){K':Act->World->Prop}{Q:Exit->Act->World->Prop}
  (hK:∀v H' ay x w',K v H'->Rl F ay H' w'->aw ay v x->Ext γ ay->K' (a.put o.dst x) w'):wpOp P ops Q i K' a w:=
 LA hE h hi hR.rel (fun o ho _=>hR.pl o ho) hR.rs hT fun v H' ay x w' h1 h2 h3=>hK v H' ay x w' h1 h3.rl h2 h3.step.ext
theorem Fe{n:Nat}(hn:n<=aY){ops:Array Oper}{Q:Exit->Act->World->Prop}{L:aE->List ai->Prop}:∀(l:List Oper) (i:Nat) (t:aE) (H:List ai) (γ:aT) (w:World) (a:Act),
  wpOps E P n ops.toList l t H L->ops.toList.drop i=l->Rl F γ H w->cW γ n t a ->
  (∀t' H' ay a' w',L t' H'->Rl F ay H' w'->cW ay n t' a'->Ext γ ay->Q .normal a' w')->Go.wpOps P ops Q ((List.range (ops.size - i)).map (·+i)) a w
 | [],i,t,H,γ,w,a,h,hd,hR,hT,hQ=>by
   simp only[wpOps] at h;have:ops.size - i=0:=by
    have:=congrArg List.length hd;simpa using this
   rw[this];exact hQ t H γ a w h hR hT (.refl γ)
 | o::rest,i,t,H,γ,w,a,h,hd,hR,hT,hQ=>by
   have an:i<ops.size:=by
    have:=congrArg List.length hd;simp at this;omega
   have hi:ops[i]?=some o:=by
    have h1:ops.toList[i]?=some o:=by
     have:(ops.toList.drop i)[0]?=some o:=by rw[hd];rfl
     rw[List.getElem?_drop] at this;simpa using this
    simpa using h1
   have ra:ops.toList.drop (i+1)=rest:=by
    have:=congrArg List.tail hd;simpa [List.tail_drop] using this
   rw[show ops.size - i=(ops.size - (i+1))+1 by omega,List.range_succ_eq_map,List.map_cons,List.map_map,wpOps_cons,Nat.zero_add];have BT:((fun x=>x+i)∘Nat.succ)=(fun x=>x+(i+1)):=by funext x;simp;omega
   rw[BT];simp only[wpOps] at h;refine E1 hE h hi hR hT fun v H1 fD x w1 hk fJ hx fM=>?_;obtain ⟨t1,hp,hk⟩:=l8 (sU hk);exact Fe hn rest (i+1) t1 H1 fD w1 _ hk ra fJ (oq (hT.mono fM) hp hn hx) fun t' H' ay a' w' h1 h2 h3 h4=>hQ t' H' ay a' w' h1 h2 h3 (fM.trans h4)
theorem n8{n k:Nat}(hn:n<=aY):∀(c:Code) (t:aE) (H:List ai) (Q:fR->aE->List ai->Prop),aI E P n k c t H Q->aM P n k c t H Q
 | .skip,t,H,Q,h=>⟨fun F γ w a R hR hT hQ=>wp_skip (hQ .normal t H γ a w h hR hT (.refl _ _))⟩
 | .label _,t,H,Q,h=>⟨fun F γ w a R hR hT hQ=>wp_label (hQ .normal t H γ a w h hR hT (.refl _ _))⟩
 | .ret,t,H,Q,h=>⟨fun F γ w a R hR hT hQ=>wp_ret (hQ .ret t H γ a w h hR hT (.refl _ _))⟩
 | .exit id,t,H,Q,h=>⟨fun F γ w a R hR hT hQ=>wp_exit (hQ (.exit id) t H γ a w h hR hT (.refl _ _))⟩
 | .goto l,t,H,Q,h=>⟨fun F γ w a R hR hT hQ=>wp_goto (hQ (.goto l) t H γ a w h hR hT (.refl _ _))⟩
 | .region id ops true,t,H,Q,h=>h
 | .region id ops false,t,H,Q,h=>⟨fun F γ w a R hR hT hQ=>by
   simp only[aI] at h;refine wp_region ?_;have:=Fe hE hn (Q:=R) ops.toList 0 t H γ w a h (by simp) hR hT fun t' H' ay a' w' h1 h2 h3 h4=>hQ .normal t' H' ay a' w' h1 h2 h3 (.AB h4 k);simpa using this⟩
 | .seq x y,t,H,Q,h=>⟨fun F γ w a R hR hT hQ=>by
   simp only[aI] at h;refine wp_seq ((n8 hn x t H _ h).out F γ w a _ hR hT fun e t1 H1 fD a1 w1 h1 fJ mJ fM=>?_);cases e with
   | normal=>exact (n8 hn y t1 H1 Q h1).out F fD w1 a1 _ fJ mJ fun e t2 H2 hY a2 w2 h2 Kx mK sg=>hQ e t2 H2 hY a2 w2 h2 Kx mK (fM.trans sg)
   | exit id=>exact hQ _ t1 H1 fD a1 w1 h1 fJ mJ fM
   | goto l=>exact hQ _ t1 H1 fD a1 w1 h1 fJ mJ fM
   | ret=>exact hQ _ t1 H1 fD a1 w1 h1 fJ mJ fM⟩
 | .cond c x y,t,H,Q,h=>⟨fun F γ w a R hR hT hQ=>by
   simp only[aI] at h;split at h
   ·rename_i v hc;have hv:=hT.aL _ _ hc;rw[au] at hv;cases v with
    | true=>exact wp_cond_true hv ((n8 hn x t H Q h).out F γ w a R hR hT hQ)
    | false=>exact wp_cond_false hv ((n8 hn y t H Q h).out F γ w a R hR hT hQ)
   ·exact h.elim⟩
 | .block id b,t,H,Q,h=>⟨fun F γ w a R hR hT hQ=>by
   simp only[aI] at h;refine wp_block ((n8 hn b t H _ h).out F γ w a _ hR hT fun e t1 H1 fD a1 w1 h1 fJ mJ fM=>?_);cases e with
   | normal=>exact hQ _ t1 H1 fD a1 w1 h1 fJ mJ fM
   | exit yB=>
     simp only[fR.ex,Exit.inBlock];simp only[] at h1;cases hb:Nat.beq yB id with
     | true=>
       rw[hb] at h1;rw[if_pos (nQ1 hb)];exact hQ .normal t1 H1 fD a1 w1 h1 fJ mJ fM
     | false=>
       rw[hb] at h1;rw[if_neg (Nat.ne_of_beq_eq_false hb)];exact hQ (.exit yB) t1 H1 fD a1 w1 h1 fJ mJ fM
   | goto l=>exact hQ _ t1 H1 fD a1 w1 h1 fJ mJ fM
   | ret=>exact hQ _ t1 H1 fD a1 w1 h1 fJ mJ fM⟩
 | .loop b,t,H,Q,h=>h
 | .scope b,t,H,Q,h=>⟨fun F γ w a R hR hT hQ=>by
   simp only[aI] at h;refine wp_scope_straight ((n8 hn b t H _ h).out F γ w a _ hR hT fun e t1 H1 fD a1 w1 h1 fJ mJ fM=>?_);cases e with
   | goto l=>exact h1.elim
   | normal=>exact hQ _ t1 H1 fD a1 w1 h1 fJ mJ fM
   | exit id=>exact hQ _ t1 H1 fD a1 w1 h1 fJ mJ fM
   | ret=>exact hQ _ t1 H1 fD a1 w1 h1 fJ mJ fM⟩
 | .rangeFunc _ _ _ _,t,H,Q,h=>h.elim
 | .refuse _,t,H,Q,h=>h.elim
theorem ag{f:Nat}{fn:Func}(hf:E.fn f=some fn){args:List AV}{H:List ai}{K:AV->List ai->Prop}(h:eX E P fn args H K):oJ P f args H K:=⟨fun F γ w xs Dt cE cK gV=>by
 have hR:Rl F γ H w:=⟨Dt,fun o ho=>cE o ho (by simp),cK⟩;obtain ⟨BS,Ky⟩:=hE.fn f fn hf;refine ⟨Ky xs w,fun R fx=>?_⟩;unfold eX at h;split at h
 ·exact h.elim
 ·rename_i c hb;split at h
  ·rename_i hle;simp only[Bool.and_eq_true] at hle;have h1:=nB1 hle.1;have h2:=nB1 hle.2;have hlen:=bB gV;have jD:xs.size=args.length:=by simpa using hlen
   have fy:fn.ntmps<=aY:=by unfold aY;omega
   have hT:cW γ fn.ntmps (setArgs 0 args .e) { tmps:=xs++Array.replicate (fn.ntmps - xs.size) undef,defers:=[] }:=by
    refine ⟨by simp;omega,rfl,fun i u hu=>?_⟩;rw[rF _ _ _ _ (by omega)] at hu;split at hu
    ·rename_i hi;obtain ⟨x,h3,h4⟩:=dQ gV i u (by simpa using hu);refine ⟨x,?_,h4⟩;simp only[];rw[Array.getElem?_append_left (by omega)];simpa using h3
    ·simp[T.get] at hu
   refine calls_of_wp BS hb ?_;refine (n8 hE fy c _ H _ h).out F γ w _ _ hR hT fun e t' H' ay a' w' hq lj gz vx=>?_;have mn:Ext γ ay:=fun o p hp=>vx o (by
    rcases Nat.lt_or_ge o H.length with h5|h5
    ·exact h5
    ·rw[hR.rel.j6 o h5] at hp;cases hp) p hp
   have hend:Ia E fn K .ret t' H'->∃x,(results fn a'.tmps).run P w'=.ok x w'/\R (.returned x) w':=fun hk=>by
    obtain ⟨v,hv,hk⟩:=Pv lj.rel.aY hk;obtain ⟨x,h3,h4⟩:=tM hE lj.rel gz hv;have iX:∀o,o<H.length->ay o≠none:=fun o ho hn=>by
     cases hg:γ o with
     | none=>exact hR.pl o ho hg
     | some p=>rcases mn o p hg with h|h<;>rw[h] at hn<;>cases hn
    refine ⟨x,h3,fx _ H' ay x w' hk h4 ⟨lj.rel,⟨mn,fun o ho hg=>absurd hg (hR.pl o ho),?_,fun o ho hg=>absurd hg (hR.pl o ho)⟩,fun q hq _=>lj.pl q hq,lj.rs⟩⟩;show H.length<=H'.length
    rcases Nat.lt_or_ge H'.length H.length with h5|h5
    ·exact absurd (lj.rel.j6 H'.length (Nat.le_refl _)) (iX _ h5)
    ·exact h5
   cases e with
   | normal=>
     obtain ⟨x,h3,h4⟩:=hend hq;exact ⟨gz.defers,x,h3,h4⟩
   | ret=>
     obtain ⟨x,h3,h4⟩:=hend hq;exact ⟨gz.defers,x,h3,h4⟩
   | exit id=>exact hq.elim
   | goto l=>exact hq.elim
  ·exact h.elim⟩
end
mutual
def AV.cI(g:Nat->Nat):AV->AV
 | .lit v=>.lit v
 | .ptr o off=>.ptr (g o) off
 | .slice o off len cap=>.slice (g o) off len cap
 | .map o=>.map (g o)
 | .func fn a b=>.func fn (AV.eN g a) (AV.eN g b)
 | .iface t v=>.iface t (AV.cI g v)
 | .agg l=>.agg (AV.eN g l)
 | .tuple l=>.tuple (AV.eN g l)
def AV.eN(g:Nat->Nat):List AV->List AV
 | []=>[]
 | v::l=>AV.cI g v::AV.eN g l
end
def pY(g:Nat->Nat):List (AV×AV×Nat)->List (AV×AV×Nat)
 | []=>[]
 | (k,v,b)::l=>(k.cI g,v.cI g,b)::pY g l
def ai.cI(g:Nat->Nat):ai->ai
 | .cells l e=>.cells (AV.eN g l) e
 | .map es c=>.map (pY g es) c
 | .iter m a b c=>.iter (g m) a b c
 | ob=>ob
theorem CJ(g:Nat->Nat):∀xs:List Value,AV.eN g (xs.map .lit)=xs.map .lit
 | []=>rfl
 | x::xs=>by simp only[List.map_cons,AV.eN,AV.cI,CJ g xs]
theorem GV(g:Nat->Nat)(ob:ai):vw (ob.cI g)=(vw ob).cI g:=by
 cases ob with
 | row xs e=>simp[ai.cI,vw,CJ]
 | _=>rfl
theorem EC{g:Nat->Nat}{ob:ai}(h:ob.cI g=.dead):ob=.dead:=by
 cases ob<;>first|rfl|cases h
theorem xG(g:Nat->Nat):∀l:List AV,(AV.eN g l).length=l.length
 | []=>rfl
 | _::l=>by simp[AV.eN,xG g l]
theorem ED(g:Nat->Nat):∀(l:List AV) (i:Nat),(AV.eN g l)[i]?=(l[i]?).map (AV.cI g)
 | [],i=>by simp[AV.eN]
 | v::l,0=>by simp[AV.eN]
 | v::l,i+1=>by simp[AV.eN,ED g l i]
mutual
theorem fm{γ:aT}{g:Nat->Nat}:∀(v:AV) (x:Value),aw γ (v.cI g) x↔aw (fun o=>γ (g o)) v x
 | .lit v,x=>by simp only[AV.cI,aw]
 | .ptr o off,x=>by simp only[AV.cI,aw,gY]
 | .slice o off len cap,x=>by simp only[AV.cI,aw,gY,pa]
 | .map o,x=>by simp only[AV.cI,aw,mw]
 | .func fn a b,x=>by
   simp only[AV.cI,aw];constructor
   ·rintro ⟨a',b',h,h1,h2⟩;exact ⟨a',b',h,(fp a _).1 h1,(fp b _).1 h2⟩
   ·rintro ⟨a',b',h,h1,h2⟩;exact ⟨a',b',h,(fp a _).2 h1,(fp b _).2 h2⟩
 | .iface t v,x=>by
   simp only[AV.cI,aw];constructor
   ·rintro ⟨y,h,h1⟩;exact ⟨y,h,(fm v _).1 h1⟩
   ·rintro ⟨y,h,h1⟩;exact ⟨y,h,(fm v _).2 h1⟩
 | .agg l,x=>by
   simp only[AV.cI,aw];constructor
   ·rintro ⟨y,h,h1⟩;exact ⟨y,h,(fp l _).1 h1⟩
   ·rintro ⟨y,h,h1⟩;exact ⟨y,h,(fp l _).2 h1⟩
 | .tuple l,x=>by
   simp only[AV.cI,aw];constructor
   ·rintro ⟨y,h,h1⟩;exact ⟨y,h,(fp l _).1 h1⟩
   ·rintro ⟨y,h,h1⟩;exact ⟨y,h,(fp l _).2 h1⟩
theorem fp{γ:aT}{g:Nat->Nat}:∀(l:List AV) (xs:List Value),aG γ (AV.eN g l) xs↔aG (fun o=>γ (g o)) l xs
 | [],xs=>by simp only[AV.eN,aG]
 | v::l,xs=>by
   simp only[AV.eN,aG];constructor
   ·rintro ⟨x,ys,h,h1,h2⟩;exact ⟨x,ys,h,(fm v _).1 h1,(fp l _).1 h2⟩
   ·rintro ⟨x,ys,h,h1,h2⟩;exact ⟨x,ys,h,(fm v _).2 h1,(fp l _).2 h2⟩
end
theorem pA{γ:aT}{g:Nat->Nat}:∀(es:List (AV×AV×Nat)) (l:List MapEntry),bf γ (pY g es) l↔bf (fun o=>γ (g o)) es l
 | [],l=>by simp only[pY,bf]
 | (k,v,b)::es,l=>by
   simp only[pY,bf];constructor
   ·rintro ⟨k',v',r,h,h1,h2,h3⟩;exact ⟨k',v',r,h,(fm k _).1 h1,(fm v _).1 h2,(pA es _).1 h3⟩
   ·rintro ⟨k',v',r,h,h1,h2,h3⟩;exact ⟨k',v',r,h,(fm k _).2 h1,(fm v _).2 h2,(pA es _).2 h3⟩
theorem zF{γ:aT}{g:Nat->Nat}{ob:ai}{p:Place}{w:World}:eo γ (ob.cI g) p w↔eo (fun o=>γ (g o)) ob p w:=by
 cases ob with
 | cells l e=>
   simp only[ai.cI,eo,xG,ED];constructor
   ·rintro ⟨c,h1,h2,h3,h4⟩;refine ⟨c,h1,h2,h3,fun i v hv=>?_⟩;obtain ⟨x,h5,h6⟩:=h4 i (v.cI g) (by rw[hv];rfl);exact ⟨x,h5,(fm v x).1 h6⟩
   ·rintro ⟨c,h1,h2,h3,h4⟩;refine ⟨c,h1,h2,h3,fun i v hv=>?_⟩;obtain ⟨u,hu,rfl⟩:=oM1.1 hv;obtain ⟨x,h5,h6⟩:=h4 i u hu;exact ⟨x,h5,(fm u x).2 h6⟩
 | map es c=>
   simp only[ai.cI,eo];constructor
   ·rintro ⟨es',h1,h2⟩;exact ⟨es',h1,(pA es _).1 h2⟩
   ·rintro ⟨es',h1,h2⟩;exact ⟨es',h1,(pA es _).2 h2⟩
 | iter m a b c=>simp only[ai.cI,eo,mw]
 | row xs e=>simp only[ai.cI,eo]
 | bE es=>simp only[ai.cI,eo]
 | res R=>simp only[ai.cI,eo]
 | dead=>simp only[ai.cI,eo]
theorem yW(g:Nat->Nat)(ob:ai):iI (ob.cI g)=iI ob:=by cases ob<;>rfl
def pL:ai->ai->Prop
 | .res R,.res R'=>∀w S,R.at_ w S->R'.at_ w S
 | .res _,_=>False
 | _,.res _=>False
 | a,b=>vw a=vw b
theorem kp{R:aC}{g:Nat->Nat}:pL (.res R) ((ai.res R).cI g):=fun _ _ h=>h
theorem ko{R:aC}{g:Nat->Nat}:∃dq,some (ai.res R)=some dq/\pL dq ((ai.res R).cI g):=⟨_,rfl,kp⟩
theorem pL.eq{a b:ai}(h:pL a b):vw a=vw b/\∀w S,(iI a).at_ w S->(iI b).at_ w S:=by
 cases a<;>cases b<;>first|exact ⟨h,fun _ _ h=>h⟩|exact ⟨rfl,h⟩|exact False.elim h
theorem db:∀{L:List aC} {w:World} {T:Nat->Prop} {i:Nat} {r:aC},bD L w T->L[i]?=some r->∃S1 S2,r.at_ w S1/\bD (L.set i aB) w S2/\(∀b,S1 b->S2 b->False)/\∀b,T b↔S1 b\/S2 b
 | [],_,_,_,_,_,h=>by simp at h
 | x::L,w,T,0,r,⟨S1,S2,h1,h2,hd,hT⟩,h=>by
   simp at h;subst h;exact ⟨S1,S2,h1,⟨fun _=>False,S2,fun _ h=>h,h2,fun _ h _=>h,fun b=>by simp⟩,hd,hT⟩
 | x::L,w,T,i+1,r,⟨S1,S2,h1,h2,hd,hT⟩,h=>by
   obtain ⟨A,B,a1,a2,a3,a4⟩:=db h2 (by simpa using h);refine ⟨A,fun b=>S1 b\/B b,a1,⟨S1,B,h1,a2,fun b x y=>hd b x ((a4 b).2 (.inr y)),fun b=>Iff.rfl⟩,fun b x y=>y.elim (fun y=>hd b y ((a4 b).2 (.inl x))) (a3 b x),fun b=>?_⟩;rw[hT b,a4 b];exact ⟨fun h=>h.elim (fun h=>.inr (.inl h)) (fun h=>h.elim .inl (fun h=>.inr (.inr h))),fun h=>h.elim (fun h=>.inr (.inl h)) (fun h=>h.elim .inl (fun h=>.inr (.inr h)))⟩
def wJ:Nat:=aY+1
def eB(ρ:List Nat)(i:Nat):Nat:=ρ.getD i wJ
def nT(g:Nat->Nat)(H:List ai):List Nat->List ai->Prop
 | [],[]=>True
 | i::ρ,ob::H0=>(∃dq,H[i]?=some dq/\pL dq (ob.cI g))/\nT g H ρ H0
 | _,_=>False
theorem oI{g:Nat->Nat}{H:List ai}:∀{ρ:List Nat} {H0:List ai},nT g H ρ H0->ρ.length=H0.length
 | [],[],_=>rfl
 | _::_,_::_,h=>by simp[oI h.2]
 | [],_::_,h=>h.elim
 | _::_,[],h=>h.elim
theorem oH{g:Nat->Nat}{H:List ai}:∀{ρ:List Nat} {H0:List ai},nT g H ρ H0->∀(i:Nat) (ob:ai),H0[i]?=some ob->∃j dq,ρ[i]?=some j/\H[j]?=some dq/\pL dq (ob.cI g)
 | [],[],_,i,ob,h=>by simp at h
 | j::ρ,o::H0,h,0,ob,hb=>by
   simp at hb;subst hb;obtain ⟨⟨dq,h1,h2⟩,_⟩:=h;exact ⟨j,dq,rfl,h1,h2⟩
 | j::ρ,o::H0,h,i+1,ob,hb=>by
   obtain ⟨j',dq,h1,h2⟩:=oH h.2 i ob (by simpa using hb);exact ⟨j',dq,by simpa using h1,h2⟩
 | [],_::_,h,_,_,_=>h.elim
 | _::_,[],h,_,_,_=>h.elim
def eG:List Nat->Bool
 | []=>true
 | i::l=>l.all (fun j=>!Nat.beq i j)&&eG l
theorem jT:∀{l:List Nat},eG l=true->l.Nodup
 | [],_=>List.nodup_nil
 | i::l,h=>by
   simp only[eG,Bool.and_eq_true,List.all_eq_true,Bool.not_eq_true'] at h;exact List.nodup_cons.2 ⟨fun hi=>by have:=h.1 i hi;simp at this,jT h.2⟩
theorem vI:∀{l:List Nat},l.Nodup->∀{i j:Nat} (hi:i<l.length) (hj:j<l.length),l[i]=l[j]->i=j
 | [],_,i,_,hi,_,_=>absurd hi (by simp)
 | a::l,h,0,0,_,_,_=>rfl
 | a::l,h,0,j+1,_,hj,e=>by
   simp only[List.getElem_cons_zero,List.getElem_cons_succ] at e;exact absurd (by rw[e];exact List.getElem_mem _) (List.nodup_cons.1 h).1
 | a::l,h,i+1,0,hi,_,e=>by
   simp only[List.getElem_cons_zero,List.getElem_cons_succ] at e;exact absurd (by rw[<-e];exact List.getElem_mem _) (List.nodup_cons.1 h).1
 | a::l,h,i+1,j+1,hi,hj,e=>by
   simp only[List.getElem_cons_succ] at e;rw[vI (List.nodup_cons.1 h).2 (by simpa using hi) (by simpa using hj) e]
theorem lT{ρ:List Nat}{i:Nat}(h:i<ρ.length):eB ρ i=ρ[i]:=by simp[eB,List.getD,h]
theorem wW{ρ:List Nat}{i:Nat}(h:ρ.length<=i):eB ρ i=wJ:=by simp[eB,List.getD,h]
theorem mF{F:dN}{γ:aT}{H:List ai}{w:World}(h:aU F γ (hp H) w):γ wJ=none:=h.j6 _ (by have:=h.aY;unfold wJ;omega)
theorem aU.sub{F:dN}{γ:aT}{H H0:List ai}{w:World}{ρ:List Nat}(h:aU F γ (hp H) w)(hs:nT (eB ρ) H ρ H0)(hn:eG ρ=true)(hl:Nat.ble H0.length aY=true):aU F (fun o=>γ (eB ρ o)) (hp H0) w:=by
 have hlen:=oI hs;have fy:H0.length<=aY:=nB1 hl;have nN:=jT hn;have rV:=mF h;have iX:∀{o:Nat},γ (eB ρ o)≠none->o<ρ.length:=fun {o} hq=>by
  rcases Nat.lt_or_ge o ρ.length with h1|h1
  ·exact h1
  ·rw[wW h1] at hq;exact absurd rV hq
 have Ef:∀{o:Nat},o<ρ.length->∃ob dq,H0[o]?=some ob/\H[eB ρ o]?=some dq/\vw dq=(vw ob).cI (eB ρ):=fun {o} ho=>by
  have hb:H0[o]?=some H0[o]:=List.getElem?_eq_getElem (by omega);obtain ⟨j,dq,h1,h2,h3⟩:=oH hs o _ hb;refine ⟨_,dq,hb,?_,by rw[h3.eq.1,GV]⟩;rw[lT ho];rw[List.getElem?_eq_getElem ho] at h1;cases h1
  exact h2
 refine ⟨⟨fun o ho=>?_,fun o p bX=>?_,fun o ho=>?_,fun o o' p p' h1 h2 e=>?_,fy⟩,fun o p bX=>?_,h.frame.less fun o p bX=>⟨_,p,bX,rfl⟩⟩
 ·have ho:H0.length<=o:=ho;rw[wW (by omega)];exact rV
 ·have ho:=iX (o:=o) (by rw[bX];simp);obtain ⟨ob,dq,h1,h2,h3⟩:=Ef ho;obtain ⟨ob2,h4,h5⟩:=h.obj _ p bX;rw[aZ h.aY,h2] at h4;simp only[Option.map_some,Option.some.injEq] at h4;subst h4;rw[h3] at h5;exact ⟨vw ob,by rw[aZ fy,h1];rfl,zF.1 h5⟩
 ·have an:=iX (o:=o) (by rw[ho];simp);obtain ⟨ob,dq,h1,h2,h3⟩:=Ef an;have h4:=h.gone _ ho;rw[aZ h.aY,h2] at h4;simp only[Option.map_some,Option.some.injEq] at h4;rw[h4] at h3;rw[aZ fy,h1];simp only[Option.map_some,Option.some.injEq];exact EC h3.symm
 ·have e1:=iX (o:=o) (by rw[h1];simp);have e2:=iX (o:=o') (by rw[h2];simp);have e3:=h.inj _ _ p p' h1 h2 e;rw[lT e1,lT e2] at e3;exact vI nN e1 e2 e3
 ·have ho:=iX (o:=o) (by rw[bX];simp);obtain ⟨ob,dq,h1,h2,h3⟩:=Ef ho;have h4:=h.live _ p bX;rw[aZ h.aY,h2] at h4;rw[aZ fy,h1];intro e;apply h4;simp only[Option.map_some,Option.some.injEq] at e ⊢;rw[h3,e];rfl
def rI:List Nat->List aC->List aC
 | [],L=>L
 | i::ρ,L=>rI ρ (L.set i aB)
theorem wy{g:Nat->Nat}{H:List ai}:∀{ρ:List Nat} {H0:List ai} {L:List aC},nT g H ρ H0->ρ.Nodup->(∀i,i∈ρ->L[i]?=(cz H)[i]?)->∀w T,bD L w T ->
  ∃T1 T2,bD (cz H0) w T1/\bD (rI ρ L) w T2/\(∀b,T1 b->T2 b->False)/\∀b,T1 b\/T2 b->T b
 | [],[],L,_,_,_=>fun w T h=>⟨fun _=>False,T,fun _ h=>h,h,fun _ h _=>h,fun b h=>h.elim False.elim id⟩
 | j::ρ,ob::H0,L,h,hn,hL=>fun w T ht=>by
   obtain ⟨⟨dq,h1,h2⟩,h3⟩:=h;have hj:L[j]?=some (iI dq):=by rw[hL j (by simp)];unfold cz;rw[List.getElem?_map,h1];rfl
   obtain ⟨S1,S2,a1,a2,a3,a4⟩:=db ht hj;have nN:=List.nodup_cons.1 hn;obtain ⟨T1,T2,b1,b2,b3,b4⟩:=wy (L:=L.set j aB) h3 nN.2 (fun i hi=>by
    rw[List.getElem?_set,if_neg (fun e=>nN.1 (by rw[e];exact hi))];exact hL i (List.mem_cons_of_mem _ hi)) w S2 a2
   have hr:=h2.eq.2 w S1 a1;rw[yW] at hr;refine ⟨fun b=>S1 b\/T1 b,T2,⟨S1,T1,hr,b1,fun b x y=>a3 b x (b4 b (.inl y)),fun b=>Iff.rfl⟩,b2,fun b x y=>x.elim (fun x=>a3 b x (b4 b (.inr y))) (fun x=>b3 b x y),fun b hb=>(a4 b).2 ?_⟩;rcases hb with (hb|hb)|hb
   ·exact .inl hb
   ·exact .inr (b4 b (.inl hb))
   ·exact .inr (b4 b (.inr hb))
 | [],_::_,_,h,_,_=>h.elim
 | _::_,[],_,h,_,_=>h.elim
theorem Rl.sub{F:dN}{γ:aT}{H H0:List ai}{w:World}{ρ:List Nat}(h:Rl F γ H w)(hs:nT (eB ρ) H ρ H0)(hn:eG ρ=true)(hl:Nat.ble H0.length aY=true):Rl F (fun o=>γ (eB ρ o)) H0 w:=by
 refine ⟨h.rel.sub hs hn hl,fun o ho=>?_,?_⟩;case refine_2=>
  obtain ⟨T,h1,h2⟩:=h.rs.out;obtain ⟨T',_,h3,_,_,h4⟩:=wy hs (jT hn) (fun _ _=>rfl) w T h1;exact ⟨T',h3,fun b hb=>⟨(h2 b (h4 b (.inl hb))).1,fun o p hp=>(h2 b (h4 b (.inl hb))).2 _ p hp⟩⟩
 have hlen:=oI hs;obtain ⟨j,dq,h1,h2,_⟩:=oH hs o _ (List.getElem?_eq_getElem ho);rw[List.getElem?_eq_getElem (by omega)] at h1;cases h1
 simp only[lT (show o<ρ.length by omega)];exact h.pl _ (lE1.1 h2).1
def tp:List (Nat×AV)->aE
 | []=>.e
 | p::l=>(tp l).put p.1 p.2
def O1(g:Nat->Nat)(t:aE):List (Nat×AV)->Prop
 | []=>True
 | p::l=>(Nat.ble p.1 aY=true/\t.get p.1=some (p.2.cI g))/\O1 g t l
theorem M7{g:Nat->Nat}{t:aE}:∀{l:List (Nat×AV)},O1 g t l->∀(i:Nat) (v:AV),(tp l).get i=some v->t.get i=some (v.cI g)
 | [],_,i,v,h=>by simp[tp,T.get] at h
 | p::l,hs,i,v,h=>by
   simp only[tp] at h;rw[T.bN _ _ _ _ (nB1 hs.1.1)] at h;split at h
   ·rename_i e;cases h
    rw[e];exact hs.1.2
   ·exact M7 hs.2 i v h
def Eb:Nat->List Nat->Nat->Bool
 | 0,_,_=>true
 | k+1,ρ,i=>match ρ with
   | []=>false
   | j::ρ=>Nat.beq j i&&Eb k ρ (i+1)
theorem BC:∀{k:Nat} {ρ:List Nat} {i:Nat},Eb k ρ i=true->∀o,o<k->ρ[o]?=some (i+o)
 | 0,_,_,_,o,ho=>absurd ho (by omega)
 | k+1,[],i,h,o,ho=>by simp[Eb] at h
 | k+1,j::ρ,i,h,o,ho=>by
   simp only[Eb,Bool.and_eq_true] at h;cases o with
   | zero=>simp[nQ1 h.1]
   | succ o=>
     have:=BC h.2 o (by omega);simp only[List.getElem?_cons_succ];rw[this];congr 1;omega
structure Sub(k:Nat)(ρ:List Nat)(t:aE)(H:List ai)(l:List (Nat×AV))(H0:List ai):Prop where
 Ht:(eG ρ&&Eb k ρ 0&&Nat.ble H0.length aY)=true
 tmps:O1 (eB ρ) t l
 u3:nT (eB ρ) H ρ H0
theorem Sub.gE{k:Nat}{ρ:List Nat}{t:aE}{H:List ai}{l:List (Nat×AV)}{H0:List ai}(h:Sub k ρ t H l H0)(γ:aT):Old k γ (fun o=>γ (eB ρ o)):=fun o ho p hp=>by
 have h1:=h.Ht;simp only[Bool.and_eq_true] at h1;have h2:=BC h1.1.2 o ho;have:eB ρ o=o:=by
  unfold eB List.getD;rw[h2];simp
 simp only[this];exact .inl hp
theorem Sub.rl{F:dN}{γ:aT}{w:World}{k:Nat}{ρ:List Nat}{t:aE}{H:List ai}{l:List (Nat×AV)}{H0:List ai}(h:Sub k ρ t H l H0)(hR:Rl F γ H w):Rl F (fun o=>γ (eB ρ o)) H0 w:=by
 have h1:=h.Ht;simp only[Bool.and_eq_true] at h1;exact hR.sub h.u3 h1.1.1 h1.2
theorem Sub.ct{γ:aT}{n:Nat}{a:Act}{k:Nat}{ρ:List Nat}{t:aE}{H:List ai}{l:List (Nat×AV)}{H0:List ai}(h:Sub k ρ t H l H0)(hT:cW γ n t a):cW (fun o=>γ (eB ρ o)) n (tp l) a:=
 ⟨hT.size,hT.defers,fun i v hv=>let ⟨x,h1,h2⟩:=hT.get i _ (M7 h.tmps i v hv);⟨x,h1,(fm v x).1 h2⟩⟩
theorem aM.sub{P:Program}{n k:Nat}{c:Code}{t:aE}{H:List ai}{Q:fR->aE->List ai->Prop}(ρ:List Nat){l:List (Nat×AV)}{H0:List ai}(hs:Sub k ρ t H l H0)(h:aM P n k c (tp l) H0 Q):aM P n k c t H Q:=
 ⟨fun F γ w a R hR hT hQ=>h.out F _ w a R (hs.rl hR) (hs.ct hT) fun e t' H' ay a' w' h1 h2 h3 h4=>hQ e t' H' ay a' w' h1 h2 h3 ((hs.gE γ).trans h4)⟩
section
variable{P:Program}{E:Env}(hE:cL P E)
include hE
theorem aV{n k:Nat}(hn:Nat.ble n aY=true){b:Code}{t:aE}{H:List ai}{Q:fR->aE->List ai->Prop}{ι:Type}(T:ι->List (Nat×AV))(Hs:ι->List ai)(I:ι->Prop)(m:ι->Nat)(s0:ι)(i0:I s0)(rQ:List Nat)(h0:Sub k rQ t H (T s0) (Hs s0))
  (hb:∀s,I s->aI E P n k b (tp (T s)) (Hs s) (fun e t' H'=>match e with
   | .normal=>∃s' ρ,(I s'/\m s'<m s)/\Sub k ρ t' H' (T s') (Hs s')
   | .exit id=>Q (.exit id) t' H'
   | .goto l=>Q (.goto l) t' H'
   | .ret=>Q .ret t' H')):aM P n k (.loop b) t H Q:=by
 have hn:=nB1 hn;refine ⟨fun F γ w a R hR hT hQ=>?_⟩;have key:∀(f:Nat) (s:ι),I s->m s<f->∀(fD:aT) (w:World) (a:Act),Rl F fD (Hs s) w->cW fD n (tp (T s)) a->Old k γ fD->Code.rounds P b R f a w:=by
  intro f;induction f with
  | zero=>intro s _ h;exact absurd h (by omega)
  | succ f ih=>
    intro s hi hm fD w a hR hT hold;rw[rounds_succ];refine (n8 hE hn b _ _ _ (hb s hi)).out F fD w a _ hR hT fun e t' H' ay a' w' hq lj gz vx=>?_;cases e with
    | normal=>
      obtain ⟨s',ρ,⟨kU,an⟩,hs⟩:=hq;exact ih s' kU (by omega) _ w' a' (hs.rl lj) (hs.ct gz) ((hold.trans vx).trans (hs.gE ay))
    | exit id=>exact hQ _ t' H' ay a' w' hq lj gz (hold.trans vx)
    | goto l=>exact hQ _ t' H' ay a' w' hq lj gz (hold.trans vx)
    | ret=>exact hQ _ t' H' ay a' w' hq lj gz (hold.trans vx)
 exact wp_loop_rounds (m s0+1) (key _ s0 i0 (by omega) _ w a (h0.rl hR) (h0.ct hT) (h0.gE γ))
end
